/-
  What is chosen of two lists is a longest common subsequence.
-/
import Derived.Test.YtmkihcdcgkdilaaQg
set_option linter.unusedVariables false
set_option linter.unusedSimpArgs false
namespace Go.Dk
open Go Go.RowKit
variable {E : V → V → Bool}
theorem lcs_nr (a : List V) : lcs E a [] = 0 := by cases a <;> rfl
theorem lcs_cc (x y : V) (a b : List V) : lcs E (x :: a) (y :: b) = if E x y then max (max (lcs E (x :: a) b) (lcs E a (y :: b))) (lcs E a b + 1) else max (lcs E (x :: a) b) (lcs E a (y :: b)) := rfl
theorem lcs_ml (x : V) (a : List V) : ∀ b, lcs E a b ≤ lcs E (x :: a) b
  | [] => by rw [lcs_nr]; omega
  | y :: b => by rw [lcs_cc]; split <;> omega
theorem lcs_mr (y : V) (b : List V) : ∀ a, lcs E a b ≤ lcs E a (y :: b)
  | [] => Nat.le_refl _
  | x :: a => by rw [lcs_cc]; split <;> omega
theorem lcs_ll (x : V) (a : List V) : ∀ b, lcs E (x :: a) b ≤ lcs E a b + 1
  | [] => by rw [lcs_nr]; omega
  | y :: b => by
    have h1 := lcs_ll x a b
    have h2 := lcs_mr (E := E) y b a
    rw [lcs_cc]; split <;> omega
theorem lcs_lr (y : V) (b : List V) : ∀ a, lcs E a (y :: b) ≤ lcs E a b + 1
  | [] => by simp [lcs]
  | x :: a => by
    have h1 := lcs_lr y b a
    have h2 := lcs_ml (E := E) x a b
    rw [lcs_cc]; split <;> omega
theorem lcs_pre {x y : V} (h : E x y = true) (a b : List V) : lcs E (x :: a) (y :: b) = lcs E a b + 1 := by
  have h1 := lcs_ll (E := E) x a b
  have h2 := lcs_lr (E := E) y b a
  rw [lcs_cc, if_pos h]; omega
theorem lcs_le_suf (x y : V) : ∀ a b, lcs E (a ++ [x]) (b ++ [y]) ≤ lcs E a b + 1
  | [], b => lcs_ll x [] _
  | x' :: a, [] => by rw [lcs_nr]; exact Nat.le_trans (lcs_lr y [] _) (by rw [lcs_nr]; omega)
  | x' :: a, y' :: b => by
    have h1 := lcs_le_suf x y (x' :: a) b
    have h2 := lcs_le_suf x y a (y' :: b)
    have h3 := lcs_le_suf x y a b
    simp only [List.cons_append] at h1 h2 ⊢
    rw [lcs_cc, lcs_cc]; split <;> omega
theorem lcs_mla (x : V) : ∀ a b, lcs E a b ≤ lcs E (a ++ [x]) b
  | [], b => by simp [lcs]
  | x' :: a, [] => by rw [lcs_nr]; omega
  | x' :: a, y :: b => by
    have h1 := lcs_mla x (x' :: a) b
    have h2 := lcs_mla x a (y :: b)
    have h3 := lcs_mla x a b
    simp only [List.cons_append] at h1 h2 ⊢
    rw [lcs_cc, lcs_cc]; split <;> omega
theorem lcs_ge_suf {x y : V} (h : E x y = true) : ∀ a b, lcs E a b + 1 ≤ lcs E (a ++ [x]) (b ++ [y])
  | [], [] => by
    show 0 + 1 ≤ lcs E [x] [y]
    rw [lcs_pre h]; omega
  | [], y' :: b => by
    have h1 := lcs_ge_suf h [] b
    have h2 := lcs_mr (E := E) y' (b ++ [y]) ([] ++ [x])
    have e : lcs E [] (y' :: b) = 0 := rfl
    have e2 : lcs E [] b = 0 := rfl
    simp only [List.cons_append] at h1 h2 ⊢
    omega
  | x' :: a, [] => by
    have h1 := lcs_ge_suf h a []
    have h2 := lcs_ml (E := E) x' (a ++ [x]) ([] ++ [y])
    rw [lcs_nr] at h1 ⊢
    simp only [List.cons_append] at h1 h2 ⊢
    omega
  | x' :: a, y' :: b => by
    have h1 := lcs_ge_suf h (x' :: a) b
    have h2 := lcs_ge_suf h a (y' :: b)
    have h3 := lcs_ge_suf h a b
    simp only [List.cons_append] at h1 h2 ⊢
    rw [lcs_cc, lcs_cc]; split <;> omega
theorem lcs_suf {x y : V} (h : E x y = true) (a b : List V) : lcs E (a ++ [x]) (b ++ [y]) = lcs E a b + 1 :=
  Nat.le_antisymm (lcs_le_suf x y a b) (lcs_ge_suf h a b)
theorem drop_getD {l : List V} {p : Nat} (h : p < l.length) : l.drop p = l.getD p nulV :: l.drop (p + 1) := by
  rw [List.drop_eq_getElem_cons h, List.getD, List.getElem?_eq_getElem h]; rfl
theorem lcs_pres {a b : List V} : ∀ P, (∀ j, j < P → j < a.length ∧ j < b.length ∧ E (a.getD j nulV) (b.getD j nulV) = true) → lcs E a b = P + lcs E (a.drop P) (b.drop P)
  | 0, _ => by simp
  | P + 1, h => by
    obtain ⟨h1, h2, h3⟩ := h P (by omega)
    rw [lcs_pres P fun j hj => h j (by omega), drop_getD h1, drop_getD h2, lcs_pre h3]; omega
theorem midL_snoc {l : List V} {p s : Nat} (h : s < l.length - p) : midL l p s = midL l p (s + 1) ++ [l.getD (l.length - 1 - s) nulV] := by
  unfold midL
  obtain ⟨n, hn⟩ : ∃ n, l.length - s - p = n + 1 := ⟨l.length - s - p - 1, by omega⟩
  rw [hn, show l.length - (s + 1) - p = n by omega, List.take_add_one, List.getElem?_drop, List.getD, show p + n = l.length - 1 - s by omega, List.getElem?_eq_getElem (by omega)]
  rfl
theorem lcs_sufs {a b : List V} {P : Nat} : ∀ S, (∀ j, j < S → j < a.length - P ∧ j < b.length - P ∧ E (a.getD (a.length - 1 - j) nulV) (b.getD (b.length - 1 - j) nulV) = true) → lcs E (midL a P 0) (midL b P 0) = S + lcs E (midL a P S) (midL b P S)
  | 0, _ => by simp
  | S + 1, h => by
    obtain ⟨h1, h2, h3⟩ := h S (by omega)
    rw [lcs_sufs S fun j hj => h j (by omega), midL_snoc h1, midL_snoc h2, lcs_suf h3]; omega
theorem midL_zero (l : List V) (p : Nat) : midL l p 0 = l.drop p := by
  unfold midL; exact List.take_of_length_le (by simp)
/-- a best way uses the next element, or does not -/
theorem mst_or (a b : List V) {i : Nat} (hi : i < a.length) : ∀ (d j : Nat), b.length - j = d → mst E a b i j = mst E a b (i + 1) j ∨ ∃ k, j ≤ k ∧ k < b.length ∧ E (a.getD i nulV) (b.getD k nulV) = true ∧ mst E a b i j = mst E a b (i + 1) (k + 1) + 1
  | 0, j, hd => by
    left; rw [mst_m E a b i (by omega), mst_m E a b (i + 1) (by omega)]
  | d + 1, j, hd => by
    have hj : j < b.length := by omega
    have hst := mst_step E a b hi hj
    have hr : mst E a b (i + 1) (j + 1) ≤ mst E a b (i + 1) j := by
      unfold mst; rw [List.drop_eq_getElem_cons hj]; exact lcs_mr _ _ _
    have ga : a.getD i nulV = a[i] := by rw [List.getD, List.getElem?_eq_getElem hi]; rfl
    have gb : b.getD j nulV = b[j] := by rw [List.getD, List.getElem?_eq_getElem hj]; rfl
    by_cases h1 : mst E a b i j = mst E a b (i + 1) j
    · exact .inl h1
    by_cases h2 : E a[i] b[j] = true ∧ mst E a b i j = mst E a b (i + 1) (j + 1) + 1
    · exact .inr ⟨j, Nat.le_refl _, hj, by rw [ga, gb]; exact h2.1, h2.2⟩
    have h3 : mst E a b i j = mst E a b i (j + 1) := by
      split at hst
      · rename_i he
        have : ¬ mst E a b i j = mst E a b (i + 1) (j + 1) + 1 := fun h => h2 ⟨he, h⟩
        omega
      · omega
    have h4 : mst E a b (i + 1) j ≤ mst E a b i j := by split at hst <;> omega
    rcases mst_or a b hi d (j + 1) (by omega) with h | ⟨k, hk1, hk2, hk3, hk4⟩
    · exfalso; omega
    · exact .inr ⟨k, by omega, hk2, hk3, by omega⟩
theorem prt_iff {a b : List V} {i j k : Nat} : prt E a b i j k = true ↔ j ≤ k ∧ E (a.getD i nulV) (b.getD k nulV) = true ∧ mst E a b (i + 1) (k + 1) + 1 = mst E a b i j := by
  unfold prt; simp only [Bool.and_eq_true, decide_eq_true_eq]
theorem sel_length (a b : List V) : ∀ d i j, a.length = i + d → (sel E a b d i j).length = mst E a b i j
  | 0, i, j, h => by rw [mst_n E a b j (by omega)]; rfl
  | d + 1, i, j, h => by
    unfold sel
    split
    · rename_i hc
      split
      · rename_i k hk
        have hp := prt_iff.1 (List.find?_some hk)
        rw [List.length_cons, sel_length a b d (i + 1) (k + 1) (by omega)]; omega
      · rename_i hk
        rw [sel_length a b d (i + 1) j (by omega)]
        rcases mst_or (E := E) a b (i := i) (by omega) _ j rfl with h1 | ⟨k, h1, h2, h3, h4⟩
        · exact h1.symm
        · exfalso
          rw [List.find?_eq_none] at hk
          exact hk k (by simpa using h2) (prt_iff.2 ⟨h1, h3, h4.symm⟩)
    · rename_i hc
      rw [List.length_nil]
      by_cases hj : j < b.length
      · by_cases h0 : mst E a b i j = 0
        · exact h0.symm
        · exact absurd ⟨hj, h0⟩ hc
      · rw [mst_m E a b i (by omega)]
/-- both go up -/
def Up (p q : Nat × Nat) : Prop := p.1 < q.1 ∧ p.2 < q.2
/-- places of equal elements -/
def EqAt (E : V → V → Bool) (a b : List V) (q : Nat × Nat) : Prop := q.1 < a.length ∧ q.2 < b.length ∧ E (a.getD q.1 nulV) (b.getD q.2 nulV) = true
theorem sel_up (a b : List V) : ∀ d i j, a.length = i + d → (∀ q ∈ sel E a b d i j, i ≤ q.1 ∧ j ≤ q.2 ∧ EqAt E a b q) ∧ (sel E a b d i j).Pairwise Up
  | 0, i, j, h => by simp [sel]
  | d + 1, i, j, h => by
    unfold sel
    split
    · split
      · rename_i k hk
        have hp := prt_iff.1 (List.find?_some hk)
        have hk2 : k < b.length := by simpa using List.mem_of_find?_eq_some hk
        obtain ⟨h1, h2⟩ := sel_up a b d (i + 1) (k + 1) (by omega)
        refine ⟨fun q hq => ?_, List.pairwise_cons.2 ⟨fun q hq => ?_, h2⟩⟩
        · rcases List.mem_cons.1 hq with rfl | hq
          · exact ⟨Nat.le_refl _, hp.1, by show i < _; omega, hk2, hp.2.1⟩
          · have := h1 q hq; exact ⟨by omega, by omega, this.2.2⟩
        · have := h1 q hq; exact ⟨by show i < _; omega, by show k < _; omega⟩
      · obtain ⟨h1, h2⟩ := sel_up a b d (i + 1) j (by omega)
        exact ⟨fun q hq => by have := h1 q hq; exact ⟨by omega, this.2⟩, h2⟩
    · simp
theorem midL_getD {l : List V} {p s k : Nat} (h : k < (midL l p s).length) : (midL l p s).getD k nulV = l.getD (p + k) nulV := by
  have hk : k < l.length - s - p := by unfold midL at h; simp only [List.length_take, List.length_drop] at h; omega
  unfold midL
  rw [List.getD, List.getElem?_take, if_pos hk, List.getElem?_drop]; rfl
theorem common_up (E : V → V → Bool) (a b : List V) : (∀ q ∈ common E a b, EqAt E a b q) ∧ (common E a b).Pairwise Up ∧ (common E a b).length = mst E a b 0 0 := by
  have hPa := nPre_a E a b
  have hPb := nPre_b E a b
  have hSa := nSuf_a E a b
  have hSb := nSuf_b E a b
  have hpre : ∀ j, j < nPre E a b → j < a.length ∧ j < b.length ∧ E (a.getD j nulV) (b.getD j nulV) = true := fun j hj => by
    have := upw_all a.length 0 j (by omega) hj
    simp only [qPre, Bool.and_eq_true, decide_eq_true_eq] at this
    exact ⟨by omega, this⟩
  have hsuf : ∀ j, j < nSuf E a b → j < a.length - nPre E a b ∧ j < b.length - nPre E a b ∧ E (a.getD (a.length - 1 - j) nulV) (b.getD (b.length - 1 - j) nulV) = true := fun j hj => by
    have := upw_all (a.length - nPre E a b) 0 j (by omega) hj
    simp only [qSuf, Bool.and_eq_true, decide_eq_true_eq] at this
    exact ⟨by omega, this⟩
  have hlA := midL_len hSa
  have hlB := midL_len hSb
  obtain ⟨hm1, hm2⟩ := sel_up (E := E) (midL a (nPre E a b) (nSuf E a b)) (midL b (nPre E a b) (nSuf E a b)) _ 0 0 (Nat.zero_add _).symm
  have hml := sel_length (E := E) (midL a (nPre E a b) (nSuf E a b)) (midL b (nPre E a b) (nSuf E a b)) _ 0 0 (Nat.zero_add _).symm
  have hmq : ∀ q ∈ mids E a b, q.1 < a.length - nSuf E a b - nPre E a b ∧ q.2 < b.length - nSuf E a b - nPre E a b ∧ E (a.getD (nPre E a b + q.1) nulV) (b.getD (nPre E a b + q.2) nulV) = true := fun q hq => by
    obtain ⟨_, _, h1, h2, h3⟩ := hm1 q hq
    rw [midL_getD h1, midL_getD h2] at h3
    exact ⟨by omega, by omega, h3⟩
  refine ⟨fun q hq => ?_, ?_, ?_⟩
  · unfold common at hq
    rw [List.mem_append, List.mem_append] at hq
    rcases hq with (hq | hq) | hq
    · obtain ⟨i, hi, rfl⟩ := List.mem_map.1 hq
      exact hpre i (by simpa using hi)
    · obtain ⟨q', hq', rfl⟩ := List.mem_map.1 hq
      obtain ⟨h1, h2, h3⟩ := hmq q' hq'
      exact ⟨by show _ + _ < _; omega, by show _ + _ < _; omega, h3⟩
    · obtain ⟨i, hi, rfl⟩ := List.mem_map.1 hq
      have hi' : i < nSuf E a b := by simpa using hi
      obtain ⟨h1, h2, h3⟩ := hsuf (nSuf E a b - 1 - i) (by omega)
      rw [show a.length - 1 - (nSuf E a b - 1 - i) = a.length - (nSuf E a b - i) by omega, show b.length - 1 - (nSuf E a b - 1 - i) = b.length - (nSuf E a b - i) by omega] at h3
      exact ⟨by show _ - _ < _; omega, by show _ - _ < _; omega, h3⟩
  · unfold common
    rw [List.pairwise_append, List.pairwise_append]
    refine ⟨⟨?_, ?_, ?_⟩, ?_, ?_⟩
    · unfold diag
      rw [List.pairwise_map]
      exact List.pairwise_lt_range.imp fun h => ⟨h, h⟩
    · rw [List.pairwise_map]
      exact hm2.imp fun h => ⟨Nat.add_lt_add_left h.1 _, Nat.add_lt_add_left h.2 _⟩
    · intro p hp q hq
      obtain ⟨i, hi, rfl⟩ := List.mem_map.1 hp
      obtain ⟨q', hq', rfl⟩ := List.mem_map.1 hq
      have hi' : i < nPre E a b := by simpa using hi
      exact ⟨by show i < _ + _; omega, by show i < _ + _; omega⟩
    · unfold ends
      rw [List.pairwise_map]
      refine List.pairwise_lt_range.imp_of_mem fun {x y} hx hy h => ?_
      have hx' : x < nSuf E a b := by simpa using hx
      have hy' : y < nSuf E a b := by simpa using hy
      exact ⟨by show _ - _ < _ - _; omega, by show _ - _ < _ - _; omega⟩
    · intro p hp q hq
      obtain ⟨i, hi, rfl⟩ := List.mem_map.1 hq
      have hi' : i < nSuf E a b := by simpa using hi
      rcases List.mem_append.1 hp with hp | hp
      · obtain ⟨j, hj, rfl⟩ := List.mem_map.1 hp
        have hj' : j < nPre E a b := by simpa using hj
        exact ⟨by show j < _ - _; omega, by show j < _ - _; omega⟩
      · obtain ⟨q', hq', rfl⟩ := List.mem_map.1 hp
        obtain ⟨h1, h2, _⟩ := hmq q' hq'
        exact ⟨by show _ + _ < _ - _; omega, by show _ + _ < _ - _; omega⟩
  · unfold common
    rw [List.length_append, List.length_append, List.length_map, diag_len, ends_len]
    unfold mids
    rw [hml]
    have h1 := lcs_pres (E := E) (a := a) (b := b) _ hpre
    have h2 := lcs_sufs (E := E) (a := a) (b := b) _ hsuf
    rw [midL_zero, midL_zero] at h2
    simp only [mst, List.drop_zero]
    omega
end Go.Dk
