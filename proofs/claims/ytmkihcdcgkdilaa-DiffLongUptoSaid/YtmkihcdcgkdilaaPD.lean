/-
  Several texts in one.
-/
import Derived.Test.YtmkihcdcgkdilaaQg
import Derived.Test.YtmkihcdcgkdilaaMd
import Derived.Test.YtmkihcdcgkdilaaQe
import Derived.Test.YtmkihcdcgkdilaaMf
section
set_option linter.unusedVariables false
set_option linter.unusedSimpArgs false
namespace Go.Dk
open Go Go.RowKit
variable {E : V → V → Bool}
theorem lcs_nr (a : List V) : lcs E a [] = 0 := by cases a <;> rfl
theorem lcs_cc (x y : V) (a b : List V) : lcs E (x :: a) (y :: b) = if E x y then max (max (lcs E (x :: a) b) (lcs E a (y :: b))) (lcs E a b + 1) else max (lcs E (x :: a) b) (lcs E a (y :: b)) := rfl
theorem lcs_ml (x : V) (a : List V) : ∀ b, lcs E a b ≤ lcs E (x :: a) b
  | [] => by rw [lcs_nr]; omega
  | y :: b => by rw [lcs_cc]; split <;> omega
theorem lcs_mr (y : V) (b : List V) : ∀ a, lcs E a b ≤ lcs E a (y :: b)
  | [] => Nat.le_refl _
  | x :: a => by rw [lcs_cc]; split <;> omega
theorem lcs_ll (x : V) (a : List V) : ∀ b, lcs E (x :: a) b ≤ lcs E a b + 1
  | [] => by rw [lcs_nr]; omega
  | y :: b => by
    have h1 := lcs_ll x a b
    have h2 := lcs_mr (E := E) y b a
    rw [lcs_cc]; split <;> omega
theorem lcs_lr (y : V) (b : List V) : ∀ a, lcs E a (y :: b) ≤ lcs E a b + 1
  | [] => by simp [lcs]
  | x :: a => by
    have h1 := lcs_lr y b a
    have h2 := lcs_ml (E := E) x a b
    rw [lcs_cc]; split <;> omega
theorem lcs_pre {x y : V} (h : E x y = true) (a b : List V) : lcs E (x :: a) (y :: b) = lcs E a b + 1 := by
  have h1 := lcs_ll (E := E) x a b
  have h2 := lcs_lr (E := E) y b a
  rw [lcs_cc, if_pos h]; omega
theorem lcs_le_suf (x y : V) : ∀ a b, lcs E (a ++ [x]) (b ++ [y]) ≤ lcs E a b + 1
  | [], b => lcs_ll x [] _
  | x' :: a, [] => by rw [lcs_nr]; exact Nat.le_trans (lcs_lr y [] _) (by rw [lcs_nr]; omega)
  | x' :: a, y' :: b => by
    have h1 := lcs_le_suf x y (x' :: a) b
    have h2 := lcs_le_suf x y a (y' :: b)
    have h3 := lcs_le_suf x y a b
    simp only [List.cons_append] at h1 h2 ⊢
    rw [lcs_cc, lcs_cc]; split <;> omega
theorem lcs_mla (x : V) : ∀ a b, lcs E a b ≤ lcs E (a ++ [x]) b
  | [], b => by simp [lcs]
  | x' :: a, [] => by rw [lcs_nr]; omega
  | x' :: a, y :: b => by
    have h1 := lcs_mla x (x' :: a) b
    have h2 := lcs_mla x a (y :: b)
    have h3 := lcs_mla x a b
    simp only [List.cons_append] at h1 h2 ⊢
    rw [lcs_cc, lcs_cc]; split <;> omega
theorem lcs_ge_suf {x y : V} (h : E x y = true) : ∀ a b, lcs E a b + 1 ≤ lcs E (a ++ [x]) (b ++ [y])
  | [], [] => by
    show 0 + 1 ≤ lcs E [x] [y]
    rw [lcs_pre h]; omega
  | [], y' :: b => by
    have h1 := lcs_ge_suf h [] b
    have h2 := lcs_mr (E := E) y' (b ++ [y]) ([] ++ [x])
    have e : lcs E [] (y' :: b) = 0 := rfl
    have e2 : lcs E [] b = 0 := rfl
    simp only [List.cons_append] at h1 h2 ⊢
    omega
  | x' :: a, [] => by
    have h1 := lcs_ge_suf h a []
    have h2 := lcs_ml (E := E) x' (a ++ [x]) ([] ++ [y])
    rw [lcs_nr] at h1 ⊢
    simp only [List.cons_append] at h1 h2 ⊢
    omega
  | x' :: a, y' :: b => by
    have h1 := lcs_ge_suf h (x' :: a) b
    have h2 := lcs_ge_suf h a (y' :: b)
    have h3 := lcs_ge_suf h a b
    simp only [List.cons_append] at h1 h2 ⊢
    rw [lcs_cc, lcs_cc]; split <;> omega
theorem lcs_suf {x y : V} (h : E x y = true) (a b : List V) : lcs E (a ++ [x]) (b ++ [y]) = lcs E a b + 1 :=
  Nat.le_antisymm (lcs_le_suf x y a b) (lcs_ge_suf h a b)
theorem drop_getD {l : List V} {p : Nat} (h : p < l.length) : l.drop p = l.getD p nulV :: l.drop (p + 1) := by
  rw [List.drop_eq_getElem_cons h, List.getD, List.getElem?_eq_getElem h]; rfl
theorem lcs_pres {a b : List V} : ∀ P, (∀ j, j < P → j < a.length ∧ j < b.length ∧ E (a.getD j nulV) (b.getD j nulV) = true) → lcs E a b = P + lcs E (a.drop P) (b.drop P)
  | 0, _ => by simp
  | P + 1, h => by
    obtain ⟨h1, h2, h3⟩ := h P (by omega)
    rw [lcs_pres P fun j hj => h j (by omega), drop_getD h1, drop_getD h2, lcs_pre h3]; omega
theorem midL_snoc {l : List V} {p s : Nat} (h : s < l.length - p) : midL l p s = midL l p (s + 1) ++ [l.getD (l.length - 1 - s) nulV] := by
  unfold midL
  obtain ⟨n, hn⟩ : ∃ n, l.length - s - p = n + 1 := ⟨l.length - s - p - 1, by omega⟩
  rw [hn, show l.length - (s + 1) - p = n by omega, List.take_add_one, List.getElem?_drop, List.getD, show p + n = l.length - 1 - s by omega, List.getElem?_eq_getElem (by omega)]
  rfl
theorem lcs_sufs {a b : List V} {P : Nat} : ∀ S, (∀ j, j < S → j < a.length - P ∧ j < b.length - P ∧ E (a.getD (a.length - 1 - j) nulV) (b.getD (b.length - 1 - j) nulV) = true) → lcs E (midL a P 0) (midL b P 0) = S + lcs E (midL a P S) (midL b P S)
  | 0, _ => by simp
  | S + 1, h => by
    obtain ⟨h1, h2, h3⟩ := h S (by omega)
    rw [lcs_sufs S fun j hj => h j (by omega), midL_snoc h1, midL_snoc h2, lcs_suf h3]; omega
theorem midL_zero (l : List V) (p : Nat) : midL l p 0 = l.drop p := by
  unfold midL; exact List.take_of_length_le (by simp)
/-- a best way uses the next element, or does not -/
theorem mst_or (a b : List V) {i : Nat} (hi : i < a.length) : ∀ (d j : Nat), b.length - j = d → mst E a b i j = mst E a b (i + 1) j ∨ ∃ k, j ≤ k ∧ k < b.length ∧ E (a.getD i nulV) (b.getD k nulV) = true ∧ mst E a b i j = mst E a b (i + 1) (k + 1) + 1
  | 0, j, hd => by
    left; rw [mst_m E a b i (by omega), mst_m E a b (i + 1) (by omega)]
  | d + 1, j, hd => by
    have hj : j < b.length := by omega
    have hst := mst_step E a b hi hj
    have hr : mst E a b (i + 1) (j + 1) ≤ mst E a b (i + 1) j := by
      unfold mst; rw [List.drop_eq_getElem_cons hj]; exact lcs_mr _ _ _
    have ga : a.getD i nulV = a[i] := by rw [List.getD, List.getElem?_eq_getElem hi]; rfl
    have gb : b.getD j nulV = b[j] := by rw [List.getD, List.getElem?_eq_getElem hj]; rfl
    by_cases h1 : mst E a b i j = mst E a b (i + 1) j
    · exact .inl h1
    by_cases h2 : E a[i] b[j] = true ∧ mst E a b i j = mst E a b (i + 1) (j + 1) + 1
    · exact .inr ⟨j, Nat.le_refl _, hj, by rw [ga, gb]; exact h2.1, h2.2⟩
    have h3 : mst E a b i j = mst E a b i (j + 1) := by
      split at hst
      · rename_i he
        have : ¬ mst E a b i j = mst E a b (i + 1) (j + 1) + 1 := fun h => h2 ⟨he, h⟩
        omega
      · omega
    have h4 : mst E a b (i + 1) j ≤ mst E a b i j := by split at hst <;> omega
    rcases mst_or a b hi d (j + 1) (by omega) with h | ⟨k, hk1, hk2, hk3, hk4⟩
    · exfalso; omega
    · exact .inr ⟨k, by omega, hk2, hk3, by omega⟩
theorem prt_iff {a b : List V} {i j k : Nat} : prt E a b i j k = true ↔ j ≤ k ∧ E (a.getD i nulV) (b.getD k nulV) = true ∧ mst E a b (i + 1) (k + 1) + 1 = mst E a b i j := by
  unfold prt; simp only [Bool.and_eq_true, decide_eq_true_eq]
theorem sel_length (a b : List V) : ∀ d i j, a.length = i + d → (sel E a b d i j).length = mst E a b i j
  | 0, i, j, h => by rw [mst_n E a b j (by omega)]; rfl
  | d + 1, i, j, h => by
    unfold sel
    split
    · rename_i hc
      split
      · rename_i k hk
        have hp := prt_iff.1 (List.find?_some hk)
        rw [List.length_cons, sel_length a b d (i + 1) (k + 1) (by omega)]; omega
      · rename_i hk
        rw [sel_length a b d (i + 1) j (by omega)]
        rcases mst_or (E := E) a b (i := i) (by omega) _ j rfl with h1 | ⟨k, h1, h2, h3, h4⟩
        · exact h1.symm
        · exfalso
          rw [List.find?_eq_none] at hk
          exact hk k (by simpa using h2) (prt_iff.2 ⟨h1, h3, h4.symm⟩)
    · rename_i hc
      rw [List.length_nil]
      by_cases hj : j < b.length
      · by_cases h0 : mst E a b i j = 0
        · exact h0.symm
        · exact absurd ⟨hj, h0⟩ hc
      · rw [mst_m E a b i (by omega)]
/-- both go up -/
def Up (p q : Nat × Nat) : Prop := p.1 < q.1 ∧ p.2 < q.2
/-- places of equal elements -/
def EqAt (E : V → V → Bool) (a b : List V) (q : Nat × Nat) : Prop := q.1 < a.length ∧ q.2 < b.length ∧ E (a.getD q.1 nulV) (b.getD q.2 nulV) = true
theorem sel_up (a b : List V) : ∀ d i j, a.length = i + d → (∀ q ∈ sel E a b d i j, i ≤ q.1 ∧ j ≤ q.2 ∧ EqAt E a b q) ∧ (sel E a b d i j).Pairwise Up
  | 0, i, j, h => by simp [sel]
  | d + 1, i, j, h => by
    unfold sel
    split
    · split
      · rename_i k hk
        have hp := prt_iff.1 (List.find?_some hk)
        have hk2 : k < b.length := by simpa using List.mem_of_find?_eq_some hk
        obtain ⟨h1, h2⟩ := sel_up a b d (i + 1) (k + 1) (by omega)
        refine ⟨fun q hq => ?_, List.pairwise_cons.2 ⟨fun q hq => ?_, h2⟩⟩
        · rcases List.mem_cons.1 hq with rfl | hq
          · exact ⟨Nat.le_refl _, hp.1, by show i < _; omega, hk2, hp.2.1⟩
          · have := h1 q hq; exact ⟨by omega, by omega, this.2.2⟩
        · have := h1 q hq; exact ⟨by show i < _; omega, by show k < _; omega⟩
      · obtain ⟨h1, h2⟩ := sel_up a b d (i + 1) j (by omega)
        exact ⟨fun q hq => by have := h1 q hq; exact ⟨by omega, this.2⟩, h2⟩
    · simp
theorem midL_getD {l : List V} {p s k : Nat} (h : k < (midL l p s).length) : (midL l p s).getD k nulV = l.getD (p + k) nulV := by
  have hk : k < l.length - s - p := by unfold midL at h; simp only [List.length_take, List.length_drop] at h; omega
  unfold midL
  rw [List.getD, List.getElem?_take, if_pos hk, List.getElem?_drop]; rfl
theorem common_up (E : V → V → Bool) (a b : List V) : (∀ q ∈ common E a b, EqAt E a b q) ∧ (common E a b).Pairwise Up ∧ (common E a b).length = mst E a b 0 0 := by
  have hPa := nPre_a E a b
  have hPb := nPre_b E a b
  have hSa := nSuf_a E a b
  have hSb := nSuf_b E a b
  have hpre : ∀ j, j < nPre E a b → j < a.length ∧ j < b.length ∧ E (a.getD j nulV) (b.getD j nulV) = true := fun j hj => by
    have := upw_all a.length 0 j (by omega) hj
    simp only [qPre, Bool.and_eq_true, decide_eq_true_eq] at this
    exact ⟨by omega, this⟩
  have hsuf : ∀ j, j < nSuf E a b → j < a.length - nPre E a b ∧ j < b.length - nPre E a b ∧ E (a.getD (a.length - 1 - j) nulV) (b.getD (b.length - 1 - j) nulV) = true := fun j hj => by
    have := upw_all (a.length - nPre E a b) 0 j (by omega) hj
    simp only [qSuf, Bool.and_eq_true, decide_eq_true_eq] at this
    exact ⟨by omega, this⟩
  have hlA := midL_len hSa
  have hlB := midL_len hSb
  obtain ⟨hm1, hm2⟩ := sel_up (E := E) (midL a (nPre E a b) (nSuf E a b)) (midL b (nPre E a b) (nSuf E a b)) _ 0 0 (Nat.zero_add _).symm
  have hml := sel_length (E := E) (midL a (nPre E a b) (nSuf E a b)) (midL b (nPre E a b) (nSuf E a b)) _ 0 0 (Nat.zero_add _).symm
  have hmq : ∀ q ∈ mids E a b, q.1 < a.length - nSuf E a b - nPre E a b ∧ q.2 < b.length - nSuf E a b - nPre E a b ∧ E (a.getD (nPre E a b + q.1) nulV) (b.getD (nPre E a b + q.2) nulV) = true := fun q hq => by
    obtain ⟨_, _, h1, h2, h3⟩ := hm1 q hq
    rw [midL_getD h1, midL_getD h2] at h3
    exact ⟨by omega, by omega, h3⟩
  refine ⟨fun q hq => ?_, ?_, ?_⟩
  · unfold common at hq
    rw [List.mem_append, List.mem_append] at hq
    rcases hq with (hq | hq) | hq
    · obtain ⟨i, hi, rfl⟩ := List.mem_map.1 hq
      exact hpre i (by simpa using hi)
    · obtain ⟨q', hq', rfl⟩ := List.mem_map.1 hq
      obtain ⟨h1, h2, h3⟩ := hmq q' hq'
      exact ⟨by show _ + _ < _; omega, by show _ + _ < _; omega, h3⟩
    · obtain ⟨i, hi, rfl⟩ := List.mem_map.1 hq
      have hi' : i < nSuf E a b := by simpa using hi
      obtain ⟨h1, h2, h3⟩ := hsuf (nSuf E a b - 1 - i) (by omega)
      rw [show a.length - 1 - (nSuf E a b - 1 - i) = a.length - (nSuf E a b - i) by omega, show b.length - 1 - (nSuf E a b - 1 - i) = b.length - (nSuf E a b - i) by omega] at h3
      exact ⟨by show _ - _ < _; omega, by show _ - _ < _; omega, h3⟩
  · unfold common
    rw [List.pairwise_append, List.pairwise_append]
    refine ⟨⟨?_, ?_, ?_⟩, ?_, ?_⟩
    · unfold diag
      rw [List.pairwise_map]
      exact List.pairwise_lt_range.imp fun h => ⟨h, h⟩
    · rw [List.pairwise_map]
      exact hm2.imp fun h => ⟨Nat.add_lt_add_left h.1 _, Nat.add_lt_add_left h.2 _⟩
    · intro p hp q hq
      obtain ⟨i, hi, rfl⟩ := List.mem_map.1 hp
      obtain ⟨q', hq', rfl⟩ := List.mem_map.1 hq
      have hi' : i < nPre E a b := by simpa using hi
      exact ⟨by show i < _ + _; omega, by show i < _ + _; omega⟩
    · unfold ends
      rw [List.pairwise_map]
      refine List.pairwise_lt_range.imp_of_mem fun {x y} hx hy h => ?_
      have hx' : x < nSuf E a b := by simpa using hx
      have hy' : y < nSuf E a b := by simpa using hy
      exact ⟨by show _ - _ < _ - _; omega, by show _ - _ < _ - _; omega⟩
    · intro p hp q hq
      obtain ⟨i, hi, rfl⟩ := List.mem_map.1 hq
      have hi' : i < nSuf E a b := by simpa using hi
      rcases List.mem_append.1 hp with hp | hp
      · obtain ⟨j, hj, rfl⟩ := List.mem_map.1 hp
        have hj' : j < nPre E a b := by simpa using hj
        exact ⟨by show j < _ - _; omega, by show j < _ - _; omega⟩
      · obtain ⟨q', hq', rfl⟩ := List.mem_map.1 hp
        obtain ⟨h1, h2, _⟩ := hmq q' hq'
        exact ⟨by show _ + _ < _ - _; omega, by show _ + _ < _ - _; omega⟩
  · unfold common
    rw [List.length_append, List.length_append, List.length_map, diag_len, ends_len]
    unfold mids
    rw [hml]
    have h1 := lcs_pres (E := E) (a := a) (b := b) _ hpre
    have h2 := lcs_sufs (E := E) (a := a) (b := b) _ hsuf
    rw [midL_zero, midL_zero] at h2
    simp only [mst, List.drop_zero]
    omega
end Go.Dk
end
section
set_option linter.unusedVariables false
set_option linter.unusedSimpArgs false
namespace Go.Dk
open Go Go.RowKit
/-- between two pairs of equal elements -/
def gapC (B : List Stp → V → V → List Ch) (p : List Stp) (a b : List V) (i j m n : Nat) : List Ch :=
  (List.range (min m n)).flatMap (fun t => B (p ++ [idxS (j + t)]) (a.getD (i + t) nulV) (b.getD (j + t) nulV)) ++
  (List.range (m - n)).map (fun t => ⟨3, p ++ [idxS (j + n)], 0, a.getD (i + n + t) nulV, nulV⟩) ++
  (List.range (n - m)).map (fun t => ⟨2, p ++ [idxS (j + m + t)], 0, nulV, b.getD (j + m + t) nulV⟩)
def lstC (B : List Stp → V → V → List Ch) (p : List Stp) (a b : List V) : List (Nat × Nat) → Nat → Nat → List Ch
  | [], _, _ => []
  | (x, y) :: ps, i, j => gapC B p a b i j (x - i) (y - j) ++ lstC B p a b ps (x + 1) (y + 1)
/-- kept keys: the changes within -/
def kepC (B : List Stp → V → V → List Ch) (p : List Stp) (fb : Fs) : Fs → List Ch
  | [] => []
  | kv :: l => (match hasF kv.1 fb with | some u => B (p ++ [keyS kv.1]) kv.2 u | none => []) ++ kepC B p fb l
/-- keys that are gone; n were kept before -/
def remC (p : List Stp) (fb : Fs) : Fs → Nat → List Ch
  | [], _ => []
  | kv :: l, n => if (hasF kv.1 fb).isSome then remC p fb l (n + 1) else ⟨3, p ++ [keyS kv.1], n, kv.2, nulV⟩ :: remC p fb l n
/-- how many are kept -/
def nkep (fb : Fs) : Fs → Nat
  | [] => 0
  | kv :: l => (if (hasF kv.1 fb).isSome then 1 else 0) + nkep fb l
/-- new keys; the first stands at n -/
def addC (p : List Stp) (fa : Fs) : Fs → Nat → List Ch
  | [], _ => []
  | kv :: l, n => if (hasF kv.1 fa).isSome then addC p fa l n else ⟨2, p ++ [keyS kv.1], n, nulV, kv.2⟩ :: addC p fa l (n + 1)
def btw (E : V → V → Bool) : Nat → List Stp → V → V → List Ch
  | 0, _, _, _ => []
  | d + 1, p, a, b =>
    if E a b then []
    else if a.sc.kind = 7 ∧ b.sc.kind = 7 then kepC (btw E d) p b.fields a.fields ++ remC p b.fields a.fields 0 ++ addC p a.fields b.fields (nkep b.fields a.fields)
    else if a.sc.kind = 6 ∧ b.sc.kind = 6 then lstC (btw E d) p a.list b.list (common E a.list b.list ++ [(a.list.length, b.list.length)]) 0 0
    else [⟨1, p, 0, a, b⟩]
/-- a change in memory -/
def chA (A : Nat → Prop) (w : World) (c : Ch) (l : List Value) : Prop := ∃ ps o n, l = .int .i64 c.op :: ps :: .int .i64 c.pos :: (o ++ n) ∧ PthA A w ps c.path ∧ RepV A w c.old o ∧ RepV A w c.new n
theorem chA.mono {A A' : Nat → Prop} {w w' : World} (hA : ∀ b, A b → A' b) (hk : Keeps A w w') {c : Ch} {r : List Value} (h : chA A w c r) : chA A' w' c r := by
  obtain ⟨ps, o, n, e, h1, h2, h3⟩ := h
  exact ⟨ps, o, n, e, h1.mono hA hk, RepV.mono hA hk _ _ h2, RepV.mono hA hk _ _ h3⟩
theorem chA.len {A : Nat → Prop} {w : World} (c : Ch) (r : List Value) (h : chA A w c r) : r.length = 29 := by
  obtain ⟨ps, o, n, rfl, h1, h2, h3⟩ := h
  simp [h2.len, h3.len]
theorem chA.one {A : Nat → Prop} {w : World} (c : Ch) (r : List Value) (h : chA A w c r) : r.all (·.oneCell') = true := by
  obtain ⟨ps, o, n, rfl, h1, h2, h3⟩ := h
  simp only [List.all_cons, List.all_append, h1.one, h2.one, h3.one]; rfl
theorem Fz.chs {w w' : World} {L L' : List (Nat × Obj)} {R R' : List Row} (hz : Fz w L R w' L' R') {l : List Ch} {rs : List (List Value)} (h : Rws (chA (F w L R) w) l rs) : Rws (chA (F w' L' R') w') l rs := h.imp fun _ _ h => h.mono hz.up hz.kp
/-- a change all of whose blocks are there -/
theorem chA.chg {A : Nat → Prop} {w : World} (hA : ∀ b, A b → b < w.heap.size) {c : Ch} {r : List Value} (h : chA A w c r) : Chg w c r := by
  obtain ⟨ps, o, n, e, h1, h2, h3⟩ := h.mono hA (w' := w) (fun _ _ => rfl)
  exact ⟨ps, o, n, e, h1, h2, h3⟩
end Go.Dk
end
section
set_option linter.unusedVariables false
set_option linter.unusedSimpArgs false
namespace Go.Dk
open Go Go.RowKit
theorem kep_cnt {B : List Stp → V → V → List Ch} {d : Nat} (p : List Stp) (fb : Fs) : ∀ (fa : Fs) (m : Nat), (∀ q, ∀ kv ∈ fa, ∀ y, (B q kv.2 y).length ≤ tsz d kv.2 + tsz d y) →
    (kepC B p fb fa).length + (remC p fb fa m).length ≤ (fa.map fun kv => tsz d kv.2).sum + ((keysOf fa).map fun k => tO d (hasF k fb)).sum
  | [], m, hB => by simp [kepC, remC]
  | kv :: fa, m, hB => by
    have h1 := kep_cnt p fb fa m (fun q kv h => hB q kv (List.mem_cons_of_mem _ h))
    have h2 := kep_cnt p fb fa (m + 1) (fun q kv h => hB q kv (List.mem_cons_of_mem _ h))
    have h3 := tsz_pos d kv.2
    simp only [kepC, remC, List.map_cons, List.sum_cons, keysOf, List.length_append] at h1 h2 ⊢
    cases hu : hasF kv.1 fb with
    | none =>
      simp only [Option.isSome_none, Bool.false_eq_true, if_false, List.length_nil, List.length_cons]
      have z0 : tO d none = 0 := rfl
      omega
    | some u =>
      have h4 := hB (p ++ [keyS kv.1]) kv (List.mem_cons_self ..) u
      simp only [Option.isSome_some, if_true]
      have z1 : tO d (some u) = tsz d u := rfl
      omega
theorem add_cnt (d : Nat) (p : List Stp) (fa : Fs) (hn : (keysOf fa).Nodup) : ∀ (fb : Fs) (n : Nat),
    ((keysOf fa).map fun k => tO d (hasF k fb)).sum + (addC p fa fb n).length ≤ (fb.map fun kv => tsz d kv.2).sum
  | [], n => by
    have : ((keysOf fa).map fun k => tO d (hasF k [])) = (keysOf fa).map fun _ => 0 := by simp [hasF, tO]
    rw [this, sum_zero]; simp [addC]
  | kv :: fb, n => by
    have h1 := add_cnt d p fa hn fb n
    have h2 := add_cnt d p fa hn fb (n + 1)
    have h3 := tsz_pos d kv.2
    simp only [addC, List.map_cons, List.sum_cons]
    by_cases hk : (hasF kv.1 fa).isSome = true
    · rw [if_pos hk]
      have hs : ((keysOf fa).map fun k => tO d (hasF k (kv :: fb))).sum ≤ ((keysOf fa).map fun k => (if kv.1 = k then tsz d kv.2 else 0) + tO d (hasF k fb)).sum := sum_le (fun k => by
        unfold hasF
        rw [List.find?_cons]
        by_cases h : kv.1 = k
        · simp [h, tO]
        · simp [h]) _
      rw [sum_add] at hs
      have h4 := sum_one (a := kv.1) (c := tsz d kv.2) _ hn
      omega
    · rw [if_neg hk]
      have hs : ((keysOf fa).map fun k => tO d (hasF k (kv :: fb))) = (keysOf fa).map fun k => tO d (hasF k fb) := List.map_congr_left fun k hm => by
        unfold hasF
        rw [List.find?_cons]
        by_cases h : kv.1 = k
        · exact absurd (hasF_isSome.2 (h ▸ hm)) hk
        · simp [h]
      rw [hs, List.length_cons]
      omega
theorem maps_cnt {B : List Stp → V → V → List Ch} {d : Nat} (p : List Stp) (fa fb : Fs) (hB : ∀ q, ∀ kv ∈ fa, ∀ y, (B q kv.2 y).length ≤ tsz d kv.2 + tsz d y) (hn : (keysOf fa).Nodup) (m n : Nat) :
    (kepC B p fb fa ++ remC p fb fa m ++ addC p fa fb n).length ≤ (fa.map fun kv => tsz d kv.2).sum + (fb.map fun kv => tsz d kv.2).sum := by
  have h1 := kep_cnt p fb fa m hB
  have h2 := add_cnt d p fa hn fb n
  rw [List.length_append, List.length_append]
  omega
end Go.Dk
end
section
set_option linter.unusedVariables false
set_option linter.unusedSimpArgs false
namespace Go.Dk
open Go Go.RowKit
def segG (d : Nat) (l : List V) (i m : Nat) : Nat := ((List.range m).map fun t => tsz d (l.getD (i + t) nulV)).sum
def segS (d : Nat) (l : List V) (i : Nat) : Nat := ((l.drop i).map (tsz d)).sum
theorem segG_succ (d : Nat) (l : List V) (i m : Nat) : segG d l i (m + 1) = segG d l i m + tsz d (l.getD (i + m) nulV) := by
  unfold segG; rw [List.range_succ, List.map_append, List.sum_append]; simp
theorem segG_add (d : Nat) (l : List V) (i k : Nat) : ∀ r, segG d l i k + r ≤ segG d l i (k + r)
  | 0 => Nat.le_refl _
  | r + 1 => by
    have h1 := segG_add d l i k r
    have h2 := tsz_pos d (l.getD (i + (k + r)) nulV)
    rw [show k + (r + 1) = k + r + 1 by omega, segG_succ]
    omega
theorem segS_at (d : Nat) (l : List V) (i : Nat) (h : i < l.length) : segS d l i = tsz d (l.getD i nulV) + segS d l (i + 1) := by
  unfold segS
  rw [List.drop_eq_getElem_cons h, List.map_cons, List.sum_cons, List.getD_eq_getElem?_getD, List.getElem?_eq_getElem h]; rfl
theorem segS_le (d : Nat) (l : List V) (i : Nat) : segS d l (i + 1) ≤ segS d l i := by
  rcases Nat.lt_or_ge i l.length with h | h
  · rw [segS_at d l i h]; omega
  · unfold segS; rw [List.drop_eq_nil_of_le (by omega)]; simp
theorem segG_S (d : Nat) (l : List V) (i : Nat) : ∀ m, i + m ≤ l.length → segG d l i m + segS d l (i + m) = segS d l i
  | 0, _ => by simp [segG]
  | m + 1, h => by
    have h1 := segG_S d l i m (by omega)
    have h2 := segS_at d l (i + m) (by omega)
    rw [segG_succ, show i + (m + 1) = i + m + 1 by omega]
    omega
theorem gap_cnt {B : List Stp → V → V → List Ch} {d : Nat} (p : List Stp) (a b : List V) (hB : ∀ q i y, (B q (a.getD i nulV) y).length ≤ tsz d (a.getD i nulV) + tsz d y) (i j m n : Nat) : (gapC B p a b i j m n).length ≤ segG d a i m + segG d b j n := by
  have h1 : ((List.range (min m n)).flatMap (fun t => B (p ++ [idxS (j + t)]) (a.getD (i + t) nulV) (b.getD (j + t) nulV))).length ≤ segG d a i (min m n) + segG d b j (min m n) := by
    rw [List.length_flatMap]
    refine Nat.le_trans (sum_le (g := fun t => tsz d (a.getD (i + t) nulV) + tsz d (b.getD (j + t) nulV)) (fun t => hB _ _ _) _) ?_
    rw [sum_add]
    exact Nat.le_refl _
  have h2 := segG_add d a i (min m n) (m - n)
  have h3 := segG_add d b j (min m n) (n - m)
  rw [show min m n + (m - n) = m by omega] at h2
  rw [show min m n + (n - m) = n by omega] at h3
  unfold gapC
  simp only [List.length_append, List.length_map, List.length_range]
  omega
/-- pairs that rise, from i and j on -/
def IncP (la lb : Nat) : List (Nat × Nat) → Nat → Nat → Prop
  | [], _, _ => True
  | (x, y) :: ps, i, j => i ≤ x ∧ j ≤ y ∧ x ≤ la ∧ y ≤ lb ∧ IncP la lb ps (x + 1) (y + 1)
theorem lst_cnt {B : List Stp → V → V → List Ch} {d : Nat} (p : List Stp) (a b : List V) (hB : ∀ q i y, (B q (a.getD i nulV) y).length ≤ tsz d (a.getD i nulV) + tsz d y) : ∀ (ps : List (Nat × Nat)) (i j : Nat), IncP a.length b.length ps i j → (lstC B p a b ps i j).length ≤ segS d a i + segS d b j
  | [], i, j, _ => by simp [lstC]
  | (x, y) :: ps, i, j, h => by
    obtain ⟨h1, h2, h3, h4, h5⟩ := h
    have g1 := gap_cnt p a b hB i j (x - i) (y - j)
    have g2 := segG_S d a i (x - i) (by omega)
    have g3 := segG_S d b j (y - j) (by omega)
    rw [show i + (x - i) = x by omega] at g2
    rw [show j + (y - j) = y by omega] at g3
    have g4 := segS_le d a x
    have g5 := segS_le d b y
    have g6 := lst_cnt p a b hB ps (x + 1) (y + 1) h5
    simp only [lstC, List.length_append]
    omega
/-- few changes, where the pairs of all lists rise -/
theorem btw_cnt (E : V → V → Bool) (hI : ∀ a b : List V, IncP a.length b.length (common E a b ++ [(a.length, b.length)]) 0 0) : ∀ (d : Nat) (p : List Stp) (a b : V), okd d a → (btw E d p a b).length ≤ tsz d a + tsz d b
  | 0, p, a, b, _ => by simp [btw]
  | d + 1, p, a, b, ha => by
    have e1 : tsz (d + 1) a = 1 + ((a.list.map (tsz d)).sum + (a.fields.map fun kv => tsz d kv.2).sum) := rfl
    have e2 : tsz (d + 1) b = 1 + ((b.list.map (tsz d)).sum + (b.fields.map fun kv => tsz d kv.2).sum) := rfl
    unfold btw
    split
    · simp
    · split
      · have h := maps_cnt (B := btw E d) (d := d) p a.fields b.fields (fun q kv hk y => btw_cnt E hI d q kv.2 y (ha.2.2.2 kv hk)) ha.2.1 0 (nkep b.fields a.fields)
        omega
      · split
        · have h := lst_cnt (B := btw E d) (d := d) p a.list b.list (fun q i y => by
            cases d with
            | zero => simp [btw]
            | succ d =>
              refine btw_cnt E hI (d + 1) q _ y ?_
              rw [List.getD_eq_getElem?_getD]
              cases hx : a.list[i]? with
              | none => exact (gd_nul d 0).ok
              | some x => exact ha.2.2.1 x (List.mem_of_getElem? hx)) _ 0 0 (hI a.list b.list)
          have h0 : segS d a.list 0 = (a.list.map (tsz d)).sum := rfl
          have h1 : segS d b.list 0 = (b.list.map (tsz d)).sum := rfl
          omega
        · simp only [List.length_cons, List.length_nil]; omega
end Go.Dk
end
section
set_option linter.unusedVariables false
namespace Go.Dk
open Go Go.RowKit
theorem inc_of {la lb : Nat} : ∀ (l : List (Nat × Nat)) (i j : Nat), (∀ q ∈ l, i ≤ q.1 ∧ j ≤ q.2 ∧ q.1 < la ∧ q.2 < lb) → l.Pairwise Up → i ≤ la → j ≤ lb → IncP la lb (l ++ [(la, lb)]) i j
  | [], i, j, _, _, hi, hj => ⟨hi, hj, Nat.le_refl _, Nat.le_refl _, trivial⟩
  | (x, y) :: l, i, j, h, hp, hi, hj => by
    obtain ⟨h1, h2, h3, h4⟩ := h (x, y) (List.mem_cons_self ..)
    obtain ⟨hp1, hp2⟩ := List.pairwise_cons.1 hp
    have h3' : x < la := h3
    have h4' : y < lb := h4
    refine ⟨h1, h2, Nat.le_of_lt h3, Nat.le_of_lt h4, inc_of l (x + 1) (y + 1) (fun q hq => ?_) hp2 (by omega) (by omega)⟩
    have hu : x < q.1 ∧ y < q.2 := hp1 q hq
    have hb := h q (List.mem_cons_of_mem _ hq)
    exact ⟨by omega, by omega, hb.2.2⟩
theorem inc_common (E : V → V → Bool) (a b : List V) : IncP a.length b.length (common E a b ++ [(a.length, b.length)]) 0 0 := by
  obtain ⟨h1, h2, _⟩ := common_up E a b
  refine inc_of _ 0 0 (fun q hq => ⟨by omega, by omega, ?_⟩) h2 (by omega) (by omega)
  obtain ⟨e1, e2, _⟩ := h1 q hq
  exact ⟨e1, e2⟩
theorem btw_few (E : V → V → Bool) (d : Nat) (p : List Stp) (a b : V) (ha : okd d a) : (btw E d p a b).length ≤ tsz d a + tsz d b := btw_cnt E (inc_common E) d p a b ha
end Go.Dk
end
section
set_option linter.unusedVariables false
set_option linter.unusedSimpArgs false
namespace Go.Dk
open Go Go.RowKit
/-- all of B, or more than 4096 with the n before -/
def Sho (n : Nat) (B S : List Ch) : Prop := S.length ≤ B.length ∧ (S = B ∨ 4096 < n + S.length)
theorem Sho.refl (n : Nat) (B : List Ch) : Sho n B B := ⟨Nat.le_refl _, .inl rfl⟩
theorem Sho.stop {n : Nat} {B : List Ch} (h : 4096 < n) : Sho n B [] := ⟨Nat.zero_le _, .inr (by simpa using h)⟩
theorem Sho.append {n : Nat} {B B' S S' : List Ch} (h : Sho n B S) (h' : Sho (n + S.length) B' S') : Sho n (B ++ B') (S ++ S') := by
  obtain ⟨h1, h2⟩ := h
  obtain ⟨h3, h4⟩ := h'
  refine ⟨by rw [List.length_append, List.length_append]; omega, ?_⟩
  rw [List.length_append]
  rcases h2 with rfl | h2
  · rcases h4 with rfl | h4
    · exact .inl rfl
    · exact .inr (by omega)
  · exact .inr (by omega)
theorem Sho.nil (n : Nat) : Sho n [] [] := Sho.refl n []
theorem Sho.cast {n : Nat} {B B' S : List Ch} (h : Sho n B S) (e : B = B') : Sho n B' S := e ▸ h
theorem Sho.snoc {n : Nat} {B S : List Ch} (h : Sho n B S) (c : Ch) : Sho n (B ++ [c]) (S ++ [c]) := h.append (Sho.refl _ _)
/-! ### maps -/
theorem kepC_append (B : List Stp → V → V → List Ch) (p : List Stp) (fb : Fs) : ∀ (l l' : Fs), kepC B p fb (l ++ l') = kepC B p fb l ++ kepC B p fb l'
  | [], l' => rfl
  | kv :: l, l' => by simp only [List.cons_append, kepC, kepC_append B p fb l l', List.append_assoc]
theorem nkep_append (fb : Fs) : ∀ (l l' : Fs), nkep fb (l ++ l') = nkep fb l + nkep fb l'
  | [], l' => by simp [nkep]
  | kv :: l, l' => by simp only [List.cons_append, nkep, nkep_append fb l l', Nat.add_assoc]
theorem nkep_le (fb : Fs) : ∀ l : Fs, nkep fb l ≤ l.length
  | [] => by simp [nkep]
  | kv :: l => by
    have := nkep_le fb l
    simp only [nkep, List.length_cons]
    split <;> omega
theorem remC_append (p : List Stp) (fb : Fs) : ∀ (l l' : Fs) (n : Nat), remC p fb (l ++ l') n = remC p fb l n ++ remC p fb l' (n + nkep fb l)
  | [], l', n => by simp [remC, nkep]
  | kv :: l, l', n => by
    simp only [List.cons_append, remC, nkep]
    split
    · rw [remC_append p fb l l', show n + 1 + nkep fb l = n + (1 + nkep fb l) by omega]
    · rw [remC_append p fb l l', Nat.zero_add]; rfl
theorem addC_append (p : List Stp) (fa : Fs) : ∀ (l l' : Fs) (n : Nat), addC p fa (l ++ l') n = addC p fa l n ++ addC p fa l' (n + (l.length - nkep fa l))
  | [], l', n => by simp [addC, nkep]
  | kv :: l, l', n => by
    have := nkep_le fa l
    simp only [List.cons_append, addC, nkep, List.length_cons]
    split
    · rw [addC_append p fa l l', show l.length + 1 - (1 + nkep fa l) = l.length - nkep fa l by omega]
    · rw [addC_append p fa l l', show n + (l.length + 1 - (0 + nkep fa l)) = n + 1 + (l.length - nkep fa l) by omega]; rfl
theorem take_snoc {α : Type} {l : List α} {i : Nat} (hi : i < l.length) : l.take (i + 1) = l.take i ++ [l[i]] := by
  rw [List.take_add_one, List.getElem?_eq_getElem hi]; rfl
theorem kepC_take (B : List Stp → V → V → List Ch) (p : List Stp) (fb : Fs) {l : Fs} {i : Nat} (hi : i < l.length) : kepC B p fb (l.take (i + 1)) = kepC B p fb (l.take i) ++ (match hasF l[i].1 fb with | some u => B (p ++ [keyS l[i].1]) l[i].2 u | none => []) := by
  rw [take_snoc hi, kepC_append]; simp only [kepC, List.append_nil]; try rfl
theorem nkep_take (fb : Fs) {l : Fs} {i : Nat} (hi : i < l.length) : nkep fb (l.take (i + 1)) = nkep fb (l.take i) + (if (hasF l[i].1 fb).isSome then 1 else 0) := by
  rw [take_snoc hi, nkep_append]; simp only [nkep, Nat.add_zero]
theorem remC_take (p : List Stp) (fb : Fs) {l : Fs} {i : Nat} (hi : i < l.length) : remC p fb (l.take (i + 1)) 0 = remC p fb (l.take i) 0 ++ (if (hasF l[i].1 fb).isSome then [] else [⟨3, p ++ [keyS l[i].1], nkep fb (l.take i), l[i].2, nulV⟩]) := by
  rw [take_snoc hi, remC_append]; simp only [remC, Nat.zero_add]
theorem addC_take (p : List Stp) (fa : Fs) (n : Nat) {l : Fs} {i : Nat} (hi : i < l.length) : addC p fa (l.take (i + 1)) n = addC p fa (l.take i) n ++ (if (hasF l[i].1 fa).isSome then [] else [⟨2, p ++ [keyS l[i].1], ((n + (i - nkep fa (l.take i)) : Nat) : Int), nulV, l[i].2⟩]) := by
  rw [take_snoc hi, addC_append]; simp only [addC, List.length_take, Nat.min_eq_left (Nat.le_of_lt hi)]
theorem kepC_le (B : List Stp → V → V → List Ch) (p : List Stp) (fb : Fs) (l : Fs) (i : Nat) : (kepC B p fb (l.take i)).length ≤ (kepC B p fb l).length := by
  conv => rhs; rw [← List.take_append_drop i l, kepC_append, List.length_append]
  omega
theorem remC_le (p : List Stp) (fb : Fs) (l : Fs) (i : Nat) : (remC p fb (l.take i) 0).length ≤ (remC p fb l 0).length := by
  conv => rhs; rw [← List.take_append_drop i l, remC_append, List.length_append]
  omega
theorem addC_le (p : List Stp) (fa : Fs) (n : Nat) (l : Fs) (i : Nat) : (addC p fa (l.take i) n).length ≤ (addC p fa l n).length := by
  conv => rhs; rw [← List.take_append_drop i l, addC_append, List.length_append]
  omega
/-! ### lists -/
/-- where the next gap begins -/
def aft : List (Nat × Nat) → Nat → Nat → Nat × Nat
  | [], i, j => (i, j)
  | (x, y) :: ps, _, _ => aft ps (x + 1) (y + 1)
theorem aft_append : ∀ (ps qs : List (Nat × Nat)) (i j : Nat), aft (ps ++ qs) i j = aft qs (aft ps i j).1 (aft ps i j).2
  | [], qs, i, j => rfl
  | (x, y) :: ps, qs, i, j => by simp only [List.cons_append, aft, aft_append ps qs]
theorem lstC_append (B : List Stp → V → V → List Ch) (p : List Stp) (a b : List V) : ∀ (ps qs : List (Nat × Nat)) (i j : Nat), lstC B p a b (ps ++ qs) i j = lstC B p a b ps i j ++ lstC B p a b qs (aft ps i j).1 (aft ps i j).2
  | [], qs, i, j => rfl
  | (x, y) :: ps, qs, i, j => by simp only [List.cons_append, lstC, aft, lstC_append B p a b ps qs, List.append_assoc]
theorem lstC_take (B : List Stp → V → V → List Ch) (p : List Stp) (a b : List V) {ps : List (Nat × Nat)} {t : Nat} (ht : t < ps.length) :
    lstC B p a b (ps.take (t + 1)) 0 0 = lstC B p a b (ps.take t) 0 0 ++ gapC B p a b (aft (ps.take t) 0 0).1 (aft (ps.take t) 0 0).2 (ps[t].1 - (aft (ps.take t) 0 0).1) (ps[t].2 - (aft (ps.take t) 0 0).2) := by
  rw [take_snoc ht, lstC_append]
  congr 1
  show lstC B p a b ((ps[t].1, ps[t].2) :: []) _ _ = _
  simp only [lstC, List.append_nil]
theorem aft_take {ps : List (Nat × Nat)} {t : Nat} (ht : t < ps.length) : aft (ps.take (t + 1)) 0 0 = (ps[t].1 + 1, ps[t].2 + 1) := by
  rw [take_snoc ht, aft_append]
  show aft ((ps[t].1, ps[t].2) :: []) _ _ = _
  rfl
theorem lstC_le (B : List Stp → V → V → List Ch) (p : List Stp) (a b : List V) (ps : List (Nat × Nat)) (t : Nat) : (lstC B p a b (ps.take t) 0 0).length ≤ (lstC B p a b ps 0 0).length := by
  conv => rhs; rw [← List.take_append_drop t ps, lstC_append, List.length_append]
  omega
/-- the pairs rise, so each gap begins before its end -/
theorem inc_aft {la lb : Nat} : ∀ (ps : List (Nat × Nat)) (i j t : Nat) (h : IncP la lb ps i j) (ht : t < ps.length), (aft (ps.take t) i j).1 ≤ ps[t].1 ∧ (aft (ps.take t) i j).2 ≤ ps[t].2 ∧ ps[t].1 ≤ la ∧ ps[t].2 ≤ lb
  | [], i, j, t, h, ht => by simp at ht
  | (x, y) :: ps, i, j, 0, h, ht => by
    simp only [IncP] at h
    simp only [List.take_zero, aft, List.getElem_cons_zero]
    omega
  | (x, y) :: ps, i, j, t + 1, h, ht => by
    simp only [IncP] at h
    simp only [List.take_succ_cons, aft, List.getElem_cons_succ]
    exact inc_aft ps (x + 1) (y + 1) t h.2.2.2.2 (by simpa using ht)
end Go.Dk
namespace Go.Dk
open Go Go.RowKit
/-! ### within a gap -/
def gp1 (B : List Stp → V → V → List Ch) (p : List Stp) (a b : List V) (i j s : Nat) : List Ch := (List.range s).flatMap (fun t => B (p ++ [idxS (j + t)]) (a.getD (i + t) nulV) (b.getD (j + t) nulV))
def gp2 (p : List Stp) (a : List V) (i j n s : Nat) : List Ch := (List.range s).map (fun t => ⟨3, p ++ [idxS (j + n)], 0, a.getD (i + n + t) nulV, nulV⟩)
def gp3 (p : List Stp) (b : List V) (j m s : Nat) : List Ch := (List.range s).map (fun t => ⟨2, p ++ [idxS (j + m + t)], 0, nulV, b.getD (j + m + t) nulV⟩)
theorem gapC_eq (B : List Stp → V → V → List Ch) (p : List Stp) (a b : List V) (i j m n : Nat) : gapC B p a b i j m n = gp1 B p a b i j (min m n) ++ gp2 p a i j n (m - n) ++ gp3 p b j m (n - m) := rfl
theorem gp1_succ (B : List Stp → V → V → List Ch) (p : List Stp) (a b : List V) (i j s : Nat) : gp1 B p a b i j (s + 1) = gp1 B p a b i j s ++ B (p ++ [idxS (j + s)]) (a.getD (i + s) nulV) (b.getD (j + s) nulV) := by
  unfold gp1; rw [List.range_succ, List.flatMap_append]; simp
theorem gp2_succ (p : List Stp) (a : List V) (i j n s : Nat) : gp2 p a i j n (s + 1) = gp2 p a i j n s ++ [⟨3, p ++ [idxS (j + n)], 0, a.getD (i + n + s) nulV, nulV⟩] := by
  unfold gp2; rw [List.range_succ, List.map_append]; rfl
theorem gp3_succ (p : List Stp) (b : List V) (j m s : Nat) : gp3 p b j m (s + 1) = gp3 p b j m s ++ [⟨2, p ++ [idxS (j + m + s)], 0, nulV, b.getD (j + m + s) nulV⟩] := by
  unfold gp3; rw [List.range_succ, List.map_append]; rfl
theorem gp1_le (B : List Stp → V → V → List Ch) (p : List Stp) (a b : List V) (i j : Nat) {s t : Nat} (h : s ≤ t) : (gp1 B p a b i j s).length ≤ (gp1 B p a b i j t).length := by
  obtain ⟨r, rfl⟩ := Nat.exists_eq_add_of_le h
  induction r with
  | zero => exact Nat.le_refl _
  | succ r ih =>
    rw [← Nat.add_assoc, gp1_succ, List.length_append]
    have := ih (by omega)
    omega
theorem gp2_len (p : List Stp) (a : List V) (i j n s : Nat) : (gp2 p a i j n s).length = s := by simp [gp2]
theorem gp3_len (p : List Stp) (b : List V) (j m s : Nat) : (gp3 p b j m s).length = s := by simp [gp3]
theorem gp1_zero (B : List Stp → V → V → List Ch) (p : List Stp) (a b : List V) (i j : Nat) : gp1 B p a b i j 0 = [] := rfl
theorem gp2_zero (p : List Stp) (a : List V) (i j n : Nat) : gp2 p a i j n 0 = [] := rfl
theorem gp3_zero (p : List Stp) (b : List V) (j m : Nat) : gp3 p b j m 0 = [] := rfl
end Go.Dk
namespace Go.Dk
open Go Go.RowKit
section
variable {E : V → V → Bool} {d : Nat} {p : List Stp} {a b : V}
theorem btw_eq (h : E a b = true) : btw E (d + 1) p a b = [] := by unfold btw; rw [if_pos h]
theorem btw_map (h : E a b = false) (h1 : a.sc.kind = 7) (h2 : b.sc.kind = 7) : btw E (d + 1) p a b = kepC (btw E d) p b.fields a.fields ++ remC p b.fields a.fields 0 ++ addC p a.fields b.fields (nkep b.fields a.fields) := by
  conv => lhs; unfold btw
  rw [if_neg (by rw [h]; simp), if_pos ⟨h1, h2⟩]
theorem btw_lst (h : E a b = false) (hk : ¬ (a.sc.kind = 7 ∧ b.sc.kind = 7)) (h1 : a.sc.kind = 6) (h2 : b.sc.kind = 6) : btw E (d + 1) p a b = lstC (btw E d) p a.list b.list (common E a.list b.list ++ [(a.list.length, b.list.length)]) 0 0 := by
  conv => lhs; unfold btw
  rw [if_neg (by rw [h]; simp), if_neg hk, if_pos ⟨h1, h2⟩]
theorem btw_rep (h : E a b = false) (hk : ¬ (a.sc.kind = 7 ∧ b.sc.kind = 7)) (hl : ¬ (a.sc.kind = 6 ∧ b.sc.kind = 6)) : btw E (d + 1) p a b = [⟨1, p, 0, a, b⟩] := by
  conv => lhs; unfold btw
  rw [if_neg (by rw [h]; simp), if_neg hk, if_neg hl]
end
end Go.Dk
end
section
set_option linter.unusedVariables false
set_option linter.unusedSimpArgs false
namespace Go.Dk
open Go Go.RowKit
theorem rem_all {Q : Ch → Prop} (p : List Stp) (fb : Fs) : ∀ (fa : Fs) (n : Nat), (∀ kv ∈ fa, ∀ m : Nat, Q ⟨3, p ++ [keyS kv.1], m, kv.2, nulV⟩) → ∀ c ∈ remC p fb fa n, Q c
  | [], n, h => fun c hc => by simp [remC] at hc
  | kv :: fa, n, h => fun c hc => by
    simp only [remC] at hc
    split at hc
    · exact rem_all p fb fa _ (fun kv hk => h kv (List.mem_cons_of_mem _ hk)) c hc
    · rcases List.mem_cons.1 hc with rfl | hc
      · exact h kv (List.mem_cons_self ..) n
      · exact rem_all p fb fa _ (fun kv hk => h kv (List.mem_cons_of_mem _ hk)) c hc
theorem add_all {Q : Ch → Prop} (p : List Stp) (fa : Fs) : ∀ (fb : Fs) (n : Nat), (∀ kv ∈ fb, ∀ m : Nat, Q ⟨2, p ++ [keyS kv.1], m, nulV, kv.2⟩) → ∀ c ∈ addC p fa fb n, Q c
  | [], n, h => fun c hc => by simp [addC] at hc
  | kv :: fb, n, h => fun c hc => by
    simp only [addC] at hc
    split at hc
    · exact add_all p fa fb _ (fun kv hk => h kv (List.mem_cons_of_mem _ hk)) c hc
    · rcases List.mem_cons.1 hc with rfl | hc
      · exact h kv (List.mem_cons_self ..) n
      · exact add_all p fa fb _ (fun kv hk => h kv (List.mem_cons_of_mem _ hk)) c hc
theorem kep_all {Q : Ch → Prop} {B : List Stp → V → V → List Ch} (p : List Stp) (fb : Fs) : ∀ (fa : Fs), (∀ kv ∈ fa, ∀ u, hasF kv.1 fb = some u → ∀ c ∈ B (p ++ [keyS kv.1]) kv.2 u, Q c) → ∀ c ∈ kepC B p fb fa, Q c
  | [], h => fun c hc => by simp [kepC] at hc
  | kv :: fa, h => fun c hc => by
    simp only [kepC, List.mem_append] at hc
    rcases hc with hc | hc
    · cases hu : hasF kv.1 fb with
      | none => rw [hu] at hc; cases hc
      | some u => rw [hu] at hc; exact h kv (List.mem_cons_self ..) u hu c hc
    · exact kep_all p fb fa (fun kv hk => h kv (List.mem_cons_of_mem _ hk)) c hc
theorem lst_all {Q : Ch → Prop} {B : List Stp → V → V → List Ch} (p : List Stp) (a b : List V) (hB : ∀ i j k : Nat, ∀ c ∈ B (p ++ [idxS k]) (a.getD i nulV) (b.getD j nulV), Q c) (hr : ∀ i k : Nat, Q ⟨3, p ++ [idxS k], 0, a.getD i nulV, nulV⟩) (ha : ∀ i k : Nat, Q ⟨2, p ++ [idxS k], 0, nulV, b.getD i nulV⟩) : ∀ (ps : List (Nat × Nat)) (i j : Nat), ∀ c ∈ lstC B p a b ps i j, Q c
  | [], i, j => fun c hc => by simp [lstC] at hc
  | (x, y) :: ps, i, j => fun c hc => by
    simp only [lstC, gapC, List.mem_append, List.mem_flatMap, List.mem_map] at hc
    rcases hc with ((⟨t, _, hc⟩ | ⟨t, _, rfl⟩) | ⟨t, _, rfl⟩) | hc
    · exact hB _ _ _ c hc
    · exact hr _ _
    · exact ha _ _
    · exact lst_all p a b hB hr ha ps _ _ c hc
theorem fine_at {l : List V} (h : ∀ x ∈ l, Fine x) (i : Nat) : Fine (l.getD i nulV) := by
  rw [List.getD_eq_getElem?_getD]
  cases hx : l[i]? with
  | none => exact fine_nul
  | some x => exact h x (List.mem_of_getElem? hx)
/-- paths are short, values fine -/
theorem btw_good (E : V → V → Bool) : ∀ (d : Nat) (p : List Stp) (a b : V), Fine a → Fine b → ∀ c ∈ btw E d p a b, c.path.length ≤ p.length + d ∧ Fine c.old ∧ Fine c.new
  | 0, p, a, b, _, _ => fun c hc => by simp [btw] at hc
  | d + 1, p, a, b, ha, hb => by
    have up : ∀ (s : Stp) (x y : V), Fine x → Fine y → ∀ c ∈ btw E d (p ++ [s]) x y, c.path.length ≤ p.length + (d + 1) ∧ Fine c.old ∧ Fine c.new := fun s x y hx hy c hc => by
      have h := btw_good E d (p ++ [s]) x y hx hy c hc
      refine ⟨?_, h.2⟩
      have h1 := h.1
      simp only [List.length_append, List.length_cons, List.length_nil] at h1
      omega
    have ln : ∀ s : Stp, (p ++ [s]).length ≤ p.length + (d + 1) := fun s => by simp
    unfold btw
    split
    · exact fun c hc => by cases hc
    · split
      · intro c hc
        rcases List.mem_append.1 hc with hc | hc
        · rcases List.mem_append.1 hc with hc | hc
          · exact kep_all (Q := fun c => c.path.length ≤ p.length + (d + 1) ∧ Fine c.old ∧ Fine c.new) p b.fields a.fields (fun kv hk u hu => up _ _ _ (ha.field hk).2 (hb.field (hasF_mem hu)).2) c hc
          · exact rem_all (Q := fun c => c.path.length ≤ p.length + (d + 1) ∧ Fine c.old ∧ Fine c.new) p b.fields a.fields 0 (fun kv hk m => ⟨ln _, (ha.field hk).2, fine_nul⟩) c hc
        · exact add_all (Q := fun c => c.path.length ≤ p.length + (d + 1) ∧ Fine c.old ∧ Fine c.new) p a.fields b.fields _ (fun kv hk m => ⟨ln _, fine_nul, (hb.field hk).2⟩) c hc
      · split
        · exact lst_all (Q := fun c => c.path.length ≤ p.length + (d + 1) ∧ Fine c.old ∧ Fine c.new) p a.list b.list (fun i j k => up _ _ _ (fine_at (fun x hx => ha.elem hx) i) (fine_at (fun x hx => hb.elem hx) j)) (fun i k => ⟨ln _, fine_at (fun x hx => ha.elem hx) i, fine_nul⟩) (fun i k => ⟨ln _, fine_nul, fine_at (fun x hx => hb.elem hx) i⟩) _ 0 0
        · intro c hc
          have e : c = ⟨1, p, 0, a, b⟩ := by simpa using hc
          subst e
          exact ⟨by simp, ha, hb⟩
end Go.Dk
end
section
set_option linter.unusedVariables false
set_option linter.unusedSimpArgs false
namespace Go.Dk
open Go Go.RowKit
def kids (v : V) : List V := v.list ++ v.fields.map (·.2)
/-- lists that the comparison can hold a table for, at all depths -/
def Nar : Nat → V → V → Prop
  | 0, _, _ => True
  | d + 1, a, b => a.list.length ≤ 6000 ∧ b.list.length ≤ 6000 ∧ a.list.length * b.list.length ≤ 40000 ∧ ∀ x ∈ kids a, ∀ y ∈ kids b, Nar d x y
theorem Nar.field {d : Nat} {a b : V} (h : Nar (d + 1) a b) {kv : ByteArray × V} (hk : kv ∈ a.fields) {k : ByteArray} {u : V} (hu : hasF k b.fields = some u) : Nar d kv.2 u :=
  h.2.2.2 _ (List.mem_append_right _ (List.mem_map.2 ⟨kv, hk, rfl⟩)) _ (List.mem_append_right _ (List.mem_map.2 ⟨_, hasF_mem hu, rfl⟩))
theorem Nar.elem {d : Nat} {a b : V} (h : Nar (d + 1) a b) {x y : V} (hx : x ∈ a.list) (hy : y ∈ b.list) : Nar d x y :=
  h.2.2.2 _ (List.mem_append_left _ hx) _ (List.mem_append_left _ hy)
theorem chs_flat {A : Nat → Prop} {w : World} {l : List Ch} {rs : List (List Value)} (h : Rws (chA A w) l rs) : rs.flatten.length = l.length * 29 := (h.flat chA.len).1
theorem chs_one {A : Nat → Prop} {w : World} {l : List Ch} {rs : List (List Value)} (h : Rws (chA A w) l rs) : rs.flatten.all (·.oneCell') = true := h.one chA.one
/-- the changes S stand behind the n that were there, in a slice of the call's own -/
def LpC (wb w0 : World) (L : List (Nat × Obj)) (R0 : List Row) (L2 : List (Nat × Obj)) (R : List Row) (n : Nat) (cs : List Value) (S : List Ch) (v : Value) (rs : List (List Value)) (w1 : World) : Prop :=
  Cxr wb w1 L2 (⟨35, 29, v, n + S.length, cs ++ rs.flatten⟩ :: R) ∧ Fz w0 L R0 w1 L2 (⟨35, 29, v, n + S.length, cs ++ rs.flatten⟩ :: R) ∧ Rws (chA (F w1 L2 (⟨35, 29, v, n + S.length, cs ++ rs.flatten⟩ :: R)) w1) S rs
theorem LpC.of {wb w0 : World} {L : List (Nat × Obj)} {R0 : List Row} {L2 : List (Nat × Obj)} {R : List Row} {n : Nat} {cs : List Value} {S : List Ch} {v : Value} {rs : List (List Value)} {w1 : World} {k : Nat} {X : List Value}
    (h1 : k = n + S.length) (h2 : X = cs ++ rs.flatten) (cx : Cxr wb w1 L2 (⟨35, 29, v, k, X⟩ :: R)) (hz : Fz w0 L R0 w1 L2 (⟨35, 29, v, k, X⟩ :: R)) (hc : Rws (chA (F w1 L2 (⟨35, 29, v, k, X⟩ :: R)) w1) S rs) : LpC wb w0 L R0 L2 R n cs S v rs w1 := by
  subst h1 h2; exact ⟨cx, hz, hc⟩
theorem LpC.cast {wb w0 : World} {L : List (Nat × Obj)} {R0 : List Row} {L2 : List (Nat × Obj)} {R : List Row} {n : Nat} {cs : List Value} {S S' : List Ch} {v : Value} {rs : List (List Value)} {w1 : World} (h : LpC wb w0 L R0 L2 R n cs S v rs w1) (e : S = S') : LpC wb w0 L R0 L2 R n cs S' v rs w1 := e ▸ h
theorem LpC.drop {wb w0 : World} {L : List (Nat × Obj)} {R0 : List Row} {L2 : List (Nat × Obj)} {R : List Row} {n : Nat} {cs : List Value} {S : List Ch} {v : Value} {rs : List (List Value)} {w1 : World} (h : LpC wb w0 L R0 L2 R n cs S v rs w1) (k : Nat) : LpC wb w0 L R0 (L2.drop k) R n cs S v rs w1 :=
  ⟨h.1.drop k, h.2.1.trans (Fz.dropL k), (Fz.dropL k).chs h.2.2⟩
/-- what the reference leaves: a slice of its own that holds B -/
def BtR (wb w0 : World) (L : List (Nat × Obj)) (R : List Row) (B : List Ch) (x : Value) (w' : World) : Prop := ∃ rs, LpC wb w0 L R L R 0 [] B x rs w'
theorem BtR.cast {wb w0 : World} {L : List (Nat × Obj)} {R : List Row} {B B' : List Ch} {x : Value} {w' : World} (e : B = B') (h : BtR wb w0 L R B' x w') : BtR wb w0 L R B x w' := by subst e; exact h
/-- what the program leaves: all of B behind what was there, or so much that it is too much -/
def BtP (wb w0 : World) (L : List (Nat × Obj)) (R : List Row) (v : Value) (n : Nat) (cs : List Value) (B : List Ch) (x : Value) (w' : World) : Prop := ∃ S rs, Sho n B S ∧ LpC wb w0 L (⟨35, 29, v, n, cs⟩ :: R) L R n cs S x rs w'
theorem BtP.cast {wb w0 : World} {L : List (Nat × Obj)} {R : List Row} {v : Value} {n : Nat} {cs : List Value} {B B' : List Ch} {x : Value} {w' : World} (e : B = B') (h : BtP wb w0 L R v n cs B' x w') : BtP wb w0 L R v n cs B x w' := by subst e; exact h
theorem LpC.zero {wb w0 w1 : World} {L : List (Nat × Obj)} {R0 : List Row} {L2 : List (Nat × Obj)} {R : List Row} {n : Nat} {cs : List Value} {v : Value} (cx : Cxr wb w1 L2 (⟨35, 29, v, n, cs⟩ :: R)) (hz : Fz w0 L R0 w1 L2 (⟨35, 29, v, n, cs⟩ :: R)) : LpC wb w0 L R0 L2 R n cs [] v [] w1 :=
  LpC.of (k := n) (X := cs) rfl (by simp) cx hz trivial
/-- the list of a call, joined -/
theorem sho_le {n : Nat} {B S : List Ch} (h : Sho n B S) {T X : List Ch} (hT : n + T.length ≤ 1048576) (hp : B.length + X.length ≤ T.length) : n + S.length + X.length ≤ 1048576 := by
  have := h.1
  omega
theorem fld_at {w w' : World} {L L' : List (Nat × Obj)} {R R' : List Row} (hz : Fz w L R w' L' R') {b o : Nat} {l : Fs} (hr : RepFs (F w L R) w b o l) {i : Nat} (hi : i < l.length) (hb : F w L R b) :
    ∃ r, RowAt w' b (o + i * 14) (.string l[i].1 :: r) ∧ RepV (F w' L' R') w' l[i].2 r := by
  obtain ⟨r, h1, h2⟩ := RepFs.get l o i l[i] hr (List.getElem?_eq_getElem hi)
  exact ⟨r, hz.row h1 hb, hz.rep h2⟩
theorem lst_at {w w' : World} {L L' : List (Nat × Obj)} {R R' : List Row} (hz : Fz w L R w' L' R') {b o : Nat} {l : List V} (hr : RepLs (F w L R) w b o l) {i : Nat} (hi : i < l.length) (hb : F w L R b) :
    ∃ r, RowAt w' b (o + i * 13) r ∧ RepV (F w' L' R') w' l[i] r := by
  obtain ⟨r, h1, h2⟩ := RepLs.get l o i l[i] hr (List.getElem?_eq_getElem hi)
  exact ⟨r, hz.row h1 hb, hz.rep h2⟩
theorem getD_at {l : List V} {i : Nat} (hi : i < l.length) : l.getD i nulV = l[i] := by rw [List.getD, List.getElem?_eq_getElem hi]; rfl
end Go.Dk
namespace Go.Dk
open Go Go.RowKit
/-! ### steps of what stays, read off the context that a step leaves -/
section
variable {wb w w' w'' : World} {L : List (Nat × Obj)} {R : List Row} {b : Nat} {o o' : Obj}
theorem Fz.newC (cx : Cxr wb w' ((b, o) :: L) R) (hb : w.heap.size = b) (hw : Below w.heap.size w w') : Fz w L R w' ((b, o) :: L) R := Fz.new hb hw
theorem Fz.newSet (cx : Cxr wb w'' ((b, o') :: L) R) (hb : w.heap.size = b) (hw : Below w.heap.size w w') (hg : w'.grownBy w'' (some b)) : Fz w L R w'' ((b, o') :: L) R :=
  (Fz.new (o := .map #[] 0) hb hw).trans (Fz.set (i := 0) (o' := o') rfl hg)
theorem Fz.belC (cx : Cxr wb w' L R) (hw : Below w.heap.size w w') : Fz w L R w' L R := Fz.below hw
theorem Fz.appC {e k n n' : Nat} {v v' : Value} {xs xs' : List Value} (cx : Cxr wb w' L (⟨e, k, v', n', xs'⟩ :: R)) (hg : w.grownBy w' v.ownBlock) (hn : ∀ q, v'.ownBlock = some q → v.ownBlock = some q ∨ w.heap.size ≤ q) : Fz w L (⟨e, k, v, n, xs⟩ :: R) w' L (⟨e, k, v', n', xs'⟩ :: R) :=
  Fz.app (r := ⟨e, k, v, n, xs⟩) (r' := ⟨e, k, v', n', xs'⟩) hg hn
theorem Fz.tlR {r : Row} : Fz w L (r :: R) w L R := Fz.dropR 1
theorem Cxr.tlR {r : Row} (h : Cxr wb w L (r :: R)) : Cxr wb w L R := h.dropR 1
theorem Fz.ch1 {L' : List (Nat × Obj)} {R' : List Row} (hz : Fz w L R w' L' R') {c : Ch} {r : List Value} (h : chA (F w L R) w c r) : chA (F w' L' R') w' c r := h.mono hz.up hz.kp
theorem Cxr.row2 {r : Row} {e k n : Nat} {v : Value} {xs : List Value} (h : Cxr wb w L (r :: ⟨e, k, v, n, xs⟩ :: R)) : w.ownsRow wb.heap.size e k v n xs := h.rows ⟨e, k, v, n, xs⟩ (List.mem_cons_of_mem _ (List.mem_cons_self ..))
end
end Go.Dk
namespace Go.Dk
open Go Go.RowKit
/-- a literal's block as a slice of the call's own -/
theorem Fz.toRow {w : World} {L : List (Nat × Obj)} {R : List Row} {b e k n c : Nat} {o : Obj} {cs : List Value} : Fz w ((b, o) :: L) R w L (⟨e, k, .slice (some ⟨b, 0, none⟩) n c, n, cs⟩ :: R) :=
  ⟨fun q h => ⟨h.1, fun hm => h.2.1 (by rw [List.map_cons]; exact List.mem_cons_of_mem _ hm), fun r hr => by
    rcases List.mem_cons.1 hr with rfl | hr
    · intro e
      have e' : some b = some q := e
      have e2 : b = q := Option.some.inj e'
      exact h.2.1 (by rw [List.map_cons, e2]; exact List.mem_cons_self ..)
    · exact h.2.2 r hr⟩, fun _ _ => rfl, Nat.le_refl _⟩
theorem gapC_M (B : List Stp → V → V → List Ch) (p : List Stp) (a b : List V) (i j m n M : Nat) (hM : M = min m n) : gapC B p a b i j m n = gp1 B p a b i j M ++ gp2 p a i j M (m - n) ++ gp3 p b j M (n - m) := by
  rw [gapC_eq, ← hM]
  have h2 : gp2 p a i j n (m - n) = gp2 p a i j M (m - n) := by
    rcases Nat.le_total m n with h | h
    · rw [show m - n = 0 by omega]; rfl
    · rw [show M = n by omega]
  have h3 : gp3 p b j m (n - m) = gp3 p b j M (n - m) := by
    rcases Nat.le_total n m with h | h
    · rw [show n - m = 0 by omega]; rfl
    · rw [show M = m by omega]
  rw [h2, h3]
end Go.Dk
namespace Go.Dk
open Go Go.RowKit
/-- the cells hold the value, where there is one -/
def RepO (A : Nat → Prop) (w : World) (o : Option V) (l : List Value) : Prop := ∀ u, o = some u → RepV A w u l
theorem Fz.repO {w w' : World} {L L' : List (Nat × Obj)} {R R' : List Row} (hz : Fz w L R w' L' R') {o : Option V} {l : List Value} (h : RepO (F w L R) w o l) : RepO (F w' L' R') w' o l := fun u e => hz.rep (h u e)
/-- a copy of a field, if there is one -/
theorem RepO.copied {wb w w' : World} {L : List (Nat × Obj)} {R : List Row} {o : Option V} {l : List Value} {bb : Bool} (cx : Cxr wb w L R) (hw : Below w.heap.size w w') (hm : match o with | some u => bb = true ∧ Made w w' u (.agg l.toArray) | none => bb = false) : bb = o.isSome ∧ RepO (F w' L R) w' o l := by
  cases o with
  | none => exact ⟨hm, fun u e => by cases e⟩
  | some u =>
    refine ⟨hm.1, fun u' e => ?_⟩
    cases e
    obtain ⟨r, e, hr⟩ := hm.2.rep
    obtain rfl : l = r := by simpa using e
    exact hr.fr cx hw.size
theorem Made.fr {wb w w' : World} {L : List (Nat × Obj)} {R : List Row} {v : V} {x : Value} (h : Made w w' v x) (cx : Cxr wb w L R) (hw : Below w.heap.size w w') : ∃ bs ls fs, x = .agg (vrow v.sc bs ls fs).toArray ∧ RepV (F w' L R) w' v (vrow v.sc bs ls fs) := by
  obtain ⟨r, e, hr⟩ := h.rep
  obtain ⟨bs, ls, fs, rfl, _⟩ := hr.open
  exact ⟨bs, ls, fs, e, hr.fr cx hw.size⟩
end Go.Dk
end
section
set_option linter.unusedVariables false
set_option linter.unusedSimpArgs false
namespace Go.Dk
open Go Go.RowKit
theorem sum_ge {α : Type} (f : α → Nat) : ∀ (l : List α), (∀ x ∈ l, 1 ≤ f x) → l.length ≤ (l.map f).sum
  | [], _ => by simp
  | x :: l, h => by
    have h1 := h x (List.mem_cons_self ..)
    have h2 := sum_ge f l (fun y hy => h y (List.mem_cons_of_mem _ hy))
    simp only [List.map_cons, List.sum_cons, List.length_cons]; omega
theorem mem_sum {α : Type} (f : α → Nat) : ∀ (l : List α) (x : α), x ∈ l → f x ≤ (l.map f).sum
  | y :: l, x, h => by
    simp only [List.map_cons, List.sum_cons]
    rcases List.mem_cons.1 h with rfl | h
    · omega
    · have := mem_sum f l x h; omega
theorem tsz_kid {d : Nat} {v x : V} (h : x ∈ kids v) : tsz d x ≤ tsz (d + 1) v := by
  simp only [tsz]
  rcases List.mem_append.1 h with h | h
  · have := mem_sum (tsz d) v.list x h; omega
  · obtain ⟨kv, hk, rfl⟩ := List.mem_map.1 h
    have := mem_sum (fun kv : ByteArray × V => tsz d kv.2) v.fields kv hk
    omega
theorem tsz_list {d : Nat} {v : V} : v.list.length + 1 ≤ tsz (d + 1) v := by
  simp only [tsz]
  have := sum_ge (tsz d) v.list (fun x _ => tsz_pos d x)
  omega
theorem nar_small : ∀ (d : Nat) (a b : V), tsz d a ≤ 200 → tsz d b ≤ 200 → Nar d a b
  | 0, _, _, _, _ => trivial
  | d + 1, a, b, ha, hb => by
    have h1 := tsz_list (d := d) (v := a)
    have h2 := tsz_list (d := d) (v := b)
    refine ⟨by omega, by omega, Nat.le_trans (Nat.mul_le_mul (show a.list.length ≤ 200 by omega) (show b.list.length ≤ 200 by omega)) (by decide), fun x hx y hy => nar_small d x y ?_ ?_⟩
    · have := tsz_kid (d := d) hx; omega
    · have := tsz_kid (d := d) hy; omega
theorem chs_of {wb w : World} {L : List (Nat × Obj)} {R : List Row} {v : Value} {n : Nat} {S : List Ch} {rs : List (List Value)} {X : List Value} (cx : Cxr wb w L (⟨35, 29, v, n, X⟩ :: R)) (hn : n = S.length) (hX : X = rs.flatten) (hc : Rws (chA (F w L (⟨35, 29, v, n, X⟩ :: R)) w) S rs) : Chs w v S := by
  have row : w.ownsRow wb.heap.size 35 29 v n X := cx.head
  subst hX
  subst hn
  rcases row.2 with ⟨rfl, h0⟩ | ⟨g, cap, cur, rfl, hb, hg, hle, _, hcs, htake⟩
  · have : S = [] := List.eq_nil_of_length_eq_zero h0
    subst this
    exact ⟨0, 0, .inl ⟨rfl, rfl⟩, fun i c h => by simp at h⟩
  · have hrow : RowAt w g 0 rs.flatten := by
      intro j x hj
      rw [cell_of_row w g (0 + j) cur _ _ hg]
      rw [← htake] at hj
      rw [List.getElem?_take] at hj
      split at hj
      · simpa using hj
      · cases hj
    refine ⟨g, 0, .inr ⟨_, cap, rfl, hle, fun _ => ⟨rfl, (Array.getElem?_eq_some_iff.1 hg).1⟩⟩, fun i c hi => ?_⟩
    obtain ⟨r, h1, h2⟩ := Rws.rowAt chA.len hc hrow hi
    exact ⟨r, h1, h2.chg F.lt⟩
theorem chs_nil {w : World} : Chs w (.slice none 0 0) [] := ⟨0, 0, .inl ⟨rfl, rfl⟩, fun i c h => by simp at h⟩
theorem rep0 {w : World} {v : V} {r : List Value} (h : Val w v r) : RepV (F w [] []) w v r := RepV.mono (fun b hb => ⟨hb, by simp, by simp⟩) (fun _ _ => rfl) _ _ h
/-- what Make gives -/
def MkB (B : List Ch) : List Ch := if 4096 < B.length then [] else B
def MkE (B : List Ch) : Int := if 4096 < B.length then 10 else 0
theorem sho_few {B S : List Ch} (h : Sho 0 B S) (hs : S.length ≤ 4096) : S = B := by
  rcases h.2 with h | h
  · exact h
  · omega
theorem sho_many {B S : List Ch} (h : Sho 0 B S) (hs : 4096 < S.length) : 4096 < B.length := Nat.lt_of_lt_of_le hs h.1
end Go.Dk
end
section
set_option linter.unusedVariables false
set_option linter.unusedSimpArgs false
namespace Go.Dk
open Go Go.RowKit
/-- a number -/
def numV (neg : Bool) (dig : ByteArray) (exp : Int) : V := .mk ⟨2, false, neg, dig, exp, 0, 0, 0, 0, ByteArray.empty⟩ [] [] []
def Nu (v : V) : Prop := ∃ neg dig exp, v = numV neg dig exp ∧ dig.size ≤ 1048576
def nrow (v : V) : List Value := vrow v.sc (.slice none 0 0) (.slice none 0 0) (.slice none 0 0)
theorem Nu.rep {A : Nat → Prop} {w : World} {v : V} (h : Nu v) : RepV A w v (nrow v) := by
  obtain ⟨neg, dig, exp, rfl, _⟩ := h
  exact RepV.mk (v := numV neg dig exp) repB_nil repL_nil ⟨0, 0, .inl ⟨rfl, rfl⟩, trivial⟩
theorem Nu.ok {v : V} (h : Nu v) (d : Nat) : okd (d + 1) v := by
  obtain ⟨neg, dig, exp, rfl, _⟩ := h
  refine ⟨⟨show (0 : Int) ≤ 2 by decide, show (2 : Int) ≤ 7 by decide, fun _ => rfl, fun h => absurd rfl h, fun _ => ⟨rfl, rfl, rfl, rfl⟩, fun _ => rfl, fun _ => rfl, fun _ => rfl, fun _ => rfl⟩, List.nodup_nil, (fun x hx => by cases hx), (fun x hx => by cases hx)⟩
theorem Nu.fine {v : V} (h : Nu v) : Fine v := by
  obtain ⟨neg, dig, exp, rfl, hd⟩ := h
  intro d
  cases d with
  | zero => trivial
  | succ d => exact ⟨Nat.zero_le _, hd, Nat.zero_le _, Nat.zero_le _, Nat.zero_le _, (fun x hx => by cases hx), (fun x hx => by cases hx)⟩
theorem Nu.kids {v : V} (h : Nu v) : kids v = [] := by
  obtain ⟨neg, dig, exp, rfl, hd⟩ := h; rfl
theorem Nu.nar {v u : V} (h : Nu v) (h' : Nu u) (d : Nat) : Nar d v u := by
  cases d with
  | zero => trivial
  | succ d =>
    have e1 : v.list = [] := by obtain ⟨neg, dig, exp, rfl, hd⟩ := h; rfl
    have e2 : u.list = [] := by obtain ⟨neg, dig, exp, rfl, hd⟩ := h'; rfl
    refine ⟨by rw [e1]; exact Nat.zero_le _, by rw [e2]; exact Nat.zero_le _, by rw [e1]; simp, fun x hx => by rw [h.kids] at hx; cases hx⟩
theorem nrow_len (v : V) : (nrow v).length = 13 := rfl
theorem nrow_one (v : V) : (nrow v).all (·.oneCell') = true := vrow_one rfl rfl rfl
theorem nrows_len (l : List V) : (l.flatMap nrow).length = l.length * 13 := by
  induction l with
  | nil => rfl
  | cons x l ih => rw [List.flatMap_cons, List.length_append, ih, nrow_len, List.length_cons]; omega
theorem nums_at {A : Nat → Prop} {w : World} {g : Nat} : ∀ (l : List V) (o : Nat), (∀ v ∈ l, Nu v) → RowAt w g o (l.flatMap nrow) → RepLs A w g o l
  | [], _, _, _ => trivial
  | v :: l, o, h, hr => by
    refine ⟨⟨nrow v, ?_, (h v (List.mem_cons_self ..)).rep⟩, nums_at l (o + 13) (fun u hu => h u (List.mem_cons_of_mem _ hu)) ?_⟩
    · intro j x hj
      refine hr j x ?_
      rw [List.flatMap_cons, List.getElem?_append_left (List.getElem?_eq_some_iff.1 hj).1]
      exact hj
    · intro j x hj
      have := hr (13 + j) x (by rw [List.flatMap_cons, List.getElem?_append_right (by rw [nrow_len]; omega), nrow_len, show 13 + j - 13 = j by omega]; exact hj)
      rwa [show o + (13 + j) = o + 13 + j by omega] at this
theorem nums_of_row {B : Nat} {w : World} {x : Value} {n : Nat} {l : List V} (row : w.ownsRow B 33 13 x n (l.flatMap nrow)) (hn : n = l.length) (h : ∀ v ∈ l, Nu v) : RepL (fun b => b < w.heap.size) w x l := by
  subst hn
  rcases row.2 with ⟨rfl, h0⟩ | ⟨g, cap, cur, rfl, hb, hg, hle, _, hcs, htake⟩
  · have : l = [] := List.eq_nil_of_length_eq_zero h0
    subst this
    exact repL_nil
  · refine ⟨g, 0, .inr ⟨_, cap, rfl, hle, fun _ => ⟨rfl, (Array.getElem?_eq_some_iff.1 hg).1⟩⟩, nums_at l 0 h ?_⟩
    intro j x hj
    rw [cell_of_row w g (0 + j) cur _ _ hg]
    rw [← htake] at hj
    rw [List.getElem?_take] at hj
    split at hj
    · simpa using hj
    · cases hj
/-- a list value -/
def lstV (l : List V) : V := .mk (zk 6) [] l []
theorem lstV_rep {A : Nat → Prop} {w : World} {x : Value} {l : List V} (h : RepL A w x l) : RepV A w (lstV l) (vrow (zk 6) (.slice none 0 0) x (.slice none 0 0)) :=
  RepV.mk (v := lstV l) repB_nil h ⟨0, 0, .inl ⟨rfl, rfl⟩, trivial⟩
theorem lstV_ok {l : List V} (h : ∀ v ∈ l, Nu v) (d : Nat) : okd (d + 2) (lstV l) :=
  ⟨⟨show (0 : Int) ≤ 6 by decide, show (6 : Int) ≤ 7 by decide, fun _ => rfl, fun _ => ⟨rfl, rfl, rfl⟩, fun _ => ⟨rfl, rfl, rfl, rfl⟩, fun _ => rfl, fun _ => rfl, fun h => absurd rfl h, fun _ => rfl⟩, List.nodup_nil, fun x hx => (h x hx).ok d, (fun x hx => by cases hx)⟩
theorem lstV_fine {l : List V} (h : ∀ v ∈ l, Nu v) (hl : l.length ≤ 1048576) : Fine (lstV l) := by
  intro d
  cases d with
  | zero => trivial
  | succ d => exact ⟨Nat.zero_le _, Nat.zero_le _, Nat.zero_le _, hl, Nat.zero_le _, fun x hx => (h x hx).fine d, (fun x hx => by cases hx)⟩
theorem lstV_nar {a b : List V} (ha : ∀ v ∈ a, Nu v) (hb : ∀ v ∈ b, Nu v) (h1 : a.length ≤ 6000) (h2 : b.length ≤ 6000) (h3 : a.length * b.length ≤ 40000) (d : Nat) : Nar (d + 1) (lstV a) (lstV b) :=
  ⟨h1, h2, h3, fun x hx y hy => by
    have e1 : x ∈ a := by simpa [kids, lstV, V.list, V.fields] using hx
    have e2 : y ∈ b := by simpa [kids, lstV, V.list, V.fields] using hy
    exact (ha x e1).nar (hb y e2) d⟩
theorem nums_sz {d : Nat} : ∀ l : List V, (∀ v ∈ l, Nu v) → (l.map (tsz d)).sum = l.length
  | [], _ => rfl
  | v :: l, h => by
    have h1 : tsz d v = 1 := by
      obtain ⟨neg, dig, exp, rfl, _⟩ := h v (List.mem_cons_self ..)
      cases d <;> simp [tsz, numV, V.list, V.fields]
    simp only [List.map_cons, List.sum_cons, nums_sz l (fun u hu => h u (List.mem_cons_of_mem _ hu)), h1, List.length_cons]; omega
theorem lstV_sz {l : List V} (h : ∀ v ∈ l, Nu v) (d : Nat) : tsz (d + 1) (lstV l) = 1 + l.length := by
  simp only [tsz, lstV, V.list, V.fields, nums_sz l h]; simp
end Go.Dk
end
