/-
  Several texts in one.
-/
import Derived.Test.YtmkihcdcgkdilaaQg
import Derived.Test.YtmkihcdcgkdilaaMd
import Derived.Test.YtmkihcdcgkdilaaQe
import Derived.Test.YtmkihcdcgkdilaaMf
import Derived.Test.YtmkihcdcgkdilaaEa
import Derived.Test.YtmkihcdcgkdilaaQf
import Derived.Test.YtmkihcdcgkdilaaVd
import Derived.ProofKit
import Derived.Test.YtmkihcdcgkdilaaVh
import Derived.Test.YtmkihcdcgkdilaaCb
import Derived.Test.YtmkihcdcgkdilaaRows
import Derived.WalkKit
import Derived.OpenShut
import Derived.JoinedCond
section
set_option linter.unusedVariables false
set_option linter.unusedSimpArgs false
namespace Go.Dk
open Go Go.RowKit
variable {E : V → V → Bool}
theorem lcs_nr (a : List V) : lcs E a [] = 0 := by cases a <;> rfl
theorem lcs_cc (x y : V) (a b : List V) : lcs E (x :: a) (y :: b) = if E x y then max (max (lcs E (x :: a) b) (lcs E a (y :: b))) (lcs E a b + 1) else max (lcs E (x :: a) b) (lcs E a (y :: b)) := rfl
theorem lcs_ml (x : V) (a : List V) : ∀ b, lcs E a b ≤ lcs E (x :: a) b
  | [] => by rw [lcs_nr]; omega
  | y :: b => by rw [lcs_cc]; split <;> omega
theorem lcs_mr (y : V) (b : List V) : ∀ a, lcs E a b ≤ lcs E a (y :: b)
  | [] => Nat.le_refl _
  | x :: a => by rw [lcs_cc]; split <;> omega
theorem lcs_ll (x : V) (a : List V) : ∀ b, lcs E (x :: a) b ≤ lcs E a b + 1
  | [] => by rw [lcs_nr]; omega
  | y :: b => by
    have h1 := lcs_ll x a b
    have h2 := lcs_mr (E := E) y b a
    rw [lcs_cc]; split <;> omega
theorem lcs_lr (y : V) (b : List V) : ∀ a, lcs E a (y :: b) ≤ lcs E a b + 1
  | [] => by simp [lcs]
  | x :: a => by
    have h1 := lcs_lr y b a
    have h2 := lcs_ml (E := E) x a b
    rw [lcs_cc]; split <;> omega
theorem lcs_pre {x y : V} (h : E x y = true) (a b : List V) : lcs E (x :: a) (y :: b) = lcs E a b + 1 := by
  have h1 := lcs_ll (E := E) x a b
  have h2 := lcs_lr (E := E) y b a
  rw [lcs_cc, if_pos h]; omega
theorem lcs_le_suf (x y : V) : ∀ a b, lcs E (a ++ [x]) (b ++ [y]) ≤ lcs E a b + 1
  | [], b => lcs_ll x [] _
  | x' :: a, [] => by rw [lcs_nr]; exact Nat.le_trans (lcs_lr y [] _) (by rw [lcs_nr]; omega)
  | x' :: a, y' :: b => by
    have h1 := lcs_le_suf x y (x' :: a) b
    have h2 := lcs_le_suf x y a (y' :: b)
    have h3 := lcs_le_suf x y a b
    simp only [List.cons_append] at h1 h2 ⊢
    rw [lcs_cc, lcs_cc]; split <;> omega
theorem lcs_mla (x : V) : ∀ a b, lcs E a b ≤ lcs E (a ++ [x]) b
  | [], b => by simp [lcs]
  | x' :: a, [] => by rw [lcs_nr]; omega
  | x' :: a, y :: b => by
    have h1 := lcs_mla x (x' :: a) b
    have h2 := lcs_mla x a (y :: b)
    have h3 := lcs_mla x a b
    simp only [List.cons_append] at h1 h2 ⊢
    rw [lcs_cc, lcs_cc]; split <;> omega
theorem lcs_ge_suf {x y : V} (h : E x y = true) : ∀ a b, lcs E a b + 1 ≤ lcs E (a ++ [x]) (b ++ [y])
  | [], [] => by
    show 0 + 1 ≤ lcs E [x] [y]
    rw [lcs_pre h]; omega
  | [], y' :: b => by
    have h1 := lcs_ge_suf h [] b
    have h2 := lcs_mr (E := E) y' (b ++ [y]) ([] ++ [x])
    have e : lcs E [] (y' :: b) = 0 := rfl
    have e2 : lcs E [] b = 0 := rfl
    simp only [List.cons_append] at h1 h2 ⊢
    omega
  | x' :: a, [] => by
    have h1 := lcs_ge_suf h a []
    have h2 := lcs_ml (E := E) x' (a ++ [x]) ([] ++ [y])
    rw [lcs_nr] at h1 ⊢
    simp only [List.cons_append] at h1 h2 ⊢
    omega
  | x' :: a, y' :: b => by
    have h1 := lcs_ge_suf h (x' :: a) b
    have h2 := lcs_ge_suf h a (y' :: b)
    have h3 := lcs_ge_suf h a b
    simp only [List.cons_append] at h1 h2 ⊢
    rw [lcs_cc, lcs_cc]; split <;> omega
theorem lcs_suf {x y : V} (h : E x y = true) (a b : List V) : lcs E (a ++ [x]) (b ++ [y]) = lcs E a b + 1 :=
  Nat.le_antisymm (lcs_le_suf x y a b) (lcs_ge_suf h a b)
theorem drop_getD {l : List V} {p : Nat} (h : p < l.length) : l.drop p = l.getD p nulV :: l.drop (p + 1) := by
  rw [List.drop_eq_getElem_cons h, List.getD, List.getElem?_eq_getElem h]; rfl
theorem lcs_pres {a b : List V} : ∀ P, (∀ j, j < P → j < a.length ∧ j < b.length ∧ E (a.getD j nulV) (b.getD j nulV) = true) → lcs E a b = P + lcs E (a.drop P) (b.drop P)
  | 0, _ => by simp
  | P + 1, h => by
    obtain ⟨h1, h2, h3⟩ := h P (by omega)
    rw [lcs_pres P fun j hj => h j (by omega), drop_getD h1, drop_getD h2, lcs_pre h3]; omega
theorem midL_snoc {l : List V} {p s : Nat} (h : s < l.length - p) : midL l p s = midL l p (s + 1) ++ [l.getD (l.length - 1 - s) nulV] := by
  unfold midL
  obtain ⟨n, hn⟩ : ∃ n, l.length - s - p = n + 1 := ⟨l.length - s - p - 1, by omega⟩
  rw [hn, show l.length - (s + 1) - p = n by omega, List.take_add_one, List.getElem?_drop, List.getD, show p + n = l.length - 1 - s by omega, List.getElem?_eq_getElem (by omega)]
  rfl
theorem lcs_sufs {a b : List V} {P : Nat} : ∀ S, (∀ j, j < S → j < a.length - P ∧ j < b.length - P ∧ E (a.getD (a.length - 1 - j) nulV) (b.getD (b.length - 1 - j) nulV) = true) → lcs E (midL a P 0) (midL b P 0) = S + lcs E (midL a P S) (midL b P S)
  | 0, _ => by simp
  | S + 1, h => by
    obtain ⟨h1, h2, h3⟩ := h S (by omega)
    rw [lcs_sufs S fun j hj => h j (by omega), midL_snoc h1, midL_snoc h2, lcs_suf h3]; omega
theorem midL_zero (l : List V) (p : Nat) : midL l p 0 = l.drop p := by
  unfold midL; exact List.take_of_length_le (by simp)
/-- a best way uses the next element, or does not -/
theorem mst_or (a b : List V) {i : Nat} (hi : i < a.length) : ∀ (d j : Nat), b.length - j = d → mst E a b i j = mst E a b (i + 1) j ∨ ∃ k, j ≤ k ∧ k < b.length ∧ E (a.getD i nulV) (b.getD k nulV) = true ∧ mst E a b i j = mst E a b (i + 1) (k + 1) + 1
  | 0, j, hd => by
    left; rw [mst_m E a b i (by omega), mst_m E a b (i + 1) (by omega)]
  | d + 1, j, hd => by
    have hj : j < b.length := by omega
    have hst := mst_step E a b hi hj
    have hr : mst E a b (i + 1) (j + 1) ≤ mst E a b (i + 1) j := by
      unfold mst; rw [List.drop_eq_getElem_cons hj]; exact lcs_mr _ _ _
    have ga : a.getD i nulV = a[i] := by rw [List.getD, List.getElem?_eq_getElem hi]; rfl
    have gb : b.getD j nulV = b[j] := by rw [List.getD, List.getElem?_eq_getElem hj]; rfl
    by_cases h1 : mst E a b i j = mst E a b (i + 1) j
    · exact .inl h1
    by_cases h2 : E a[i] b[j] = true ∧ mst E a b i j = mst E a b (i + 1) (j + 1) + 1
    · exact .inr ⟨j, Nat.le_refl _, hj, by rw [ga, gb]; exact h2.1, h2.2⟩
    have h3 : mst E a b i j = mst E a b i (j + 1) := by
      split at hst
      · rename_i he
        have : ¬ mst E a b i j = mst E a b (i + 1) (j + 1) + 1 := fun h => h2 ⟨he, h⟩
        omega
      · omega
    have h4 : mst E a b (i + 1) j ≤ mst E a b i j := by split at hst <;> omega
    rcases mst_or a b hi d (j + 1) (by omega) with h | ⟨k, hk1, hk2, hk3, hk4⟩
    · exfalso; omega
    · exact .inr ⟨k, by omega, hk2, hk3, by omega⟩
theorem prt_iff {a b : List V} {i j k : Nat} : prt E a b i j k = true ↔ j ≤ k ∧ E (a.getD i nulV) (b.getD k nulV) = true ∧ mst E a b (i + 1) (k + 1) + 1 = mst E a b i j := by
  unfold prt; simp only [Bool.and_eq_true, decide_eq_true_eq]
theorem sel_length (a b : List V) : ∀ d i j, a.length = i + d → (sel E a b d i j).length = mst E a b i j
  | 0, i, j, h => by rw [mst_n E a b j (by omega)]; rfl
  | d + 1, i, j, h => by
    unfold sel
    split
    · rename_i hc
      split
      · rename_i k hk
        have hp := prt_iff.1 (List.find?_some hk)
        rw [List.length_cons, sel_length a b d (i + 1) (k + 1) (by omega)]; omega
      · rename_i hk
        rw [sel_length a b d (i + 1) j (by omega)]
        rcases mst_or (E := E) a b (i := i) (by omega) _ j rfl with h1 | ⟨k, h1, h2, h3, h4⟩
        · exact h1.symm
        · exfalso
          rw [List.find?_eq_none] at hk
          exact hk k (by simpa using h2) (prt_iff.2 ⟨h1, h3, h4.symm⟩)
    · rename_i hc
      rw [List.length_nil]
      by_cases hj : j < b.length
      · by_cases h0 : mst E a b i j = 0
        · exact h0.symm
        · exact absurd ⟨hj, h0⟩ hc
      · rw [mst_m E a b i (by omega)]
/-- both go up -/
def Up (p q : Nat × Nat) : Prop := p.1 < q.1 ∧ p.2 < q.2
/-- places of equal elements -/
def EqAt (E : V → V → Bool) (a b : List V) (q : Nat × Nat) : Prop := q.1 < a.length ∧ q.2 < b.length ∧ E (a.getD q.1 nulV) (b.getD q.2 nulV) = true
theorem sel_up (a b : List V) : ∀ d i j, a.length = i + d → (∀ q ∈ sel E a b d i j, i ≤ q.1 ∧ j ≤ q.2 ∧ EqAt E a b q) ∧ (sel E a b d i j).Pairwise Up
  | 0, i, j, h => by simp [sel]
  | d + 1, i, j, h => by
    unfold sel
    split
    · split
      · rename_i k hk
        have hp := prt_iff.1 (List.find?_some hk)
        have hk2 : k < b.length := by simpa using List.mem_of_find?_eq_some hk
        obtain ⟨h1, h2⟩ := sel_up a b d (i + 1) (k + 1) (by omega)
        refine ⟨fun q hq => ?_, List.pairwise_cons.2 ⟨fun q hq => ?_, h2⟩⟩
        · rcases List.mem_cons.1 hq with rfl | hq
          · exact ⟨Nat.le_refl _, hp.1, by show i < _; omega, hk2, hp.2.1⟩
          · have := h1 q hq; exact ⟨by omega, by omega, this.2.2⟩
        · have := h1 q hq; exact ⟨by show i < _; omega, by show k < _; omega⟩
      · obtain ⟨h1, h2⟩ := sel_up a b d (i + 1) j (by omega)
        exact ⟨fun q hq => by have := h1 q hq; exact ⟨by omega, this.2⟩, h2⟩
    · simp
theorem midL_getD {l : List V} {p s k : Nat} (h : k < (midL l p s).length) : (midL l p s).getD k nulV = l.getD (p + k) nulV := by
  have hk : k < l.length - s - p := by unfold midL at h; simp only [List.length_take, List.length_drop] at h; omega
  unfold midL
  rw [List.getD, List.getElem?_take, if_pos hk, List.getElem?_drop]; rfl
theorem common_up (E : V → V → Bool) (a b : List V) : (∀ q ∈ common E a b, EqAt E a b q) ∧ (common E a b).Pairwise Up ∧ (common E a b).length = mst E a b 0 0 := by
  have hPa := nPre_a E a b
  have hPb := nPre_b E a b
  have hSa := nSuf_a E a b
  have hSb := nSuf_b E a b
  have hpre : ∀ j, j < nPre E a b → j < a.length ∧ j < b.length ∧ E (a.getD j nulV) (b.getD j nulV) = true := fun j hj => by
    have := upw_all a.length 0 j (by omega) hj
    simp only [qPre, Bool.and_eq_true, decide_eq_true_eq] at this
    exact ⟨by omega, this⟩
  have hsuf : ∀ j, j < nSuf E a b → j < a.length - nPre E a b ∧ j < b.length - nPre E a b ∧ E (a.getD (a.length - 1 - j) nulV) (b.getD (b.length - 1 - j) nulV) = true := fun j hj => by
    have := upw_all (a.length - nPre E a b) 0 j (by omega) hj
    simp only [qSuf, Bool.and_eq_true, decide_eq_true_eq] at this
    exact ⟨by omega, this⟩
  have hlA := midL_len hSa
  have hlB := midL_len hSb
  obtain ⟨hm1, hm2⟩ := sel_up (E := E) (midL a (nPre E a b) (nSuf E a b)) (midL b (nPre E a b) (nSuf E a b)) _ 0 0 (Nat.zero_add _).symm
  have hml := sel_length (E := E) (midL a (nPre E a b) (nSuf E a b)) (midL b (nPre E a b) (nSuf E a b)) _ 0 0 (Nat.zero_add _).symm
  have hmq : ∀ q ∈ mids E a b, q.1 < a.length - nSuf E a b - nPre E a b ∧ q.2 < b.length - nSuf E a b - nPre E a b ∧ E (a.getD (nPre E a b + q.1) nulV) (b.getD (nPre E a b + q.2) nulV) = true := fun q hq => by
    obtain ⟨_, _, h1, h2, h3⟩ := hm1 q hq
    rw [midL_getD h1, midL_getD h2] at h3
    exact ⟨by omega, by omega, h3⟩
  refine ⟨fun q hq => ?_, ?_, ?_⟩
  · unfold common at hq
    rw [List.mem_append, List.mem_append] at hq
    rcases hq with (hq | hq) | hq
    · obtain ⟨i, hi, rfl⟩ := List.mem_map.1 hq
      exact hpre i (by simpa using hi)
    · obtain ⟨q', hq', rfl⟩ := List.mem_map.1 hq
      obtain ⟨h1, h2, h3⟩ := hmq q' hq'
      exact ⟨by show _ + _ < _; omega, by show _ + _ < _; omega, h3⟩
    · obtain ⟨i, hi, rfl⟩ := List.mem_map.1 hq
      have hi' : i < nSuf E a b := by simpa using hi
      obtain ⟨h1, h2, h3⟩ := hsuf (nSuf E a b - 1 - i) (by omega)
      rw [show a.length - 1 - (nSuf E a b - 1 - i) = a.length - (nSuf E a b - i) by omega, show b.length - 1 - (nSuf E a b - 1 - i) = b.length - (nSuf E a b - i) by omega] at h3
      exact ⟨by show _ - _ < _; omega, by show _ - _ < _; omega, h3⟩
  · unfold common
    rw [List.pairwise_append, List.pairwise_append]
    refine ⟨⟨?_, ?_, ?_⟩, ?_, ?_⟩
    · unfold diag
      rw [List.pairwise_map]
      exact List.pairwise_lt_range.imp fun h => ⟨h, h⟩
    · rw [List.pairwise_map]
      exact hm2.imp fun h => ⟨Nat.add_lt_add_left h.1 _, Nat.add_lt_add_left h.2 _⟩
    · intro p hp q hq
      obtain ⟨i, hi, rfl⟩ := List.mem_map.1 hp
      obtain ⟨q', hq', rfl⟩ := List.mem_map.1 hq
      have hi' : i < nPre E a b := by simpa using hi
      exact ⟨by show i < _ + _; omega, by show i < _ + _; omega⟩
    · unfold ends
      rw [List.pairwise_map]
      refine List.pairwise_lt_range.imp_of_mem fun {x y} hx hy h => ?_
      have hx' : x < nSuf E a b := by simpa using hx
      have hy' : y < nSuf E a b := by simpa using hy
      exact ⟨by show _ - _ < _ - _; omega, by show _ - _ < _ - _; omega⟩
    · intro p hp q hq
      obtain ⟨i, hi, rfl⟩ := List.mem_map.1 hq
      have hi' : i < nSuf E a b := by simpa using hi
      rcases List.mem_append.1 hp with hp | hp
      · obtain ⟨j, hj, rfl⟩ := List.mem_map.1 hp
        have hj' : j < nPre E a b := by simpa using hj
        exact ⟨by show j < _ - _; omega, by show j < _ - _; omega⟩
      · obtain ⟨q', hq', rfl⟩ := List.mem_map.1 hp
        obtain ⟨h1, h2, _⟩ := hmq q' hq'
        exact ⟨by show _ + _ < _ - _; omega, by show _ + _ < _ - _; omega⟩
  · unfold common
    rw [List.length_append, List.length_append, List.length_map, diag_len, ends_len]
    unfold mids
    rw [hml]
    have h1 := lcs_pres (E := E) (a := a) (b := b) _ hpre
    have h2 := lcs_sufs (E := E) (a := a) (b := b) _ hsuf
    rw [midL_zero, midL_zero] at h2
    simp only [mst, List.drop_zero]
    omega
end Go.Dk
end
section
set_option linter.unusedVariables false
set_option linter.unusedSimpArgs false
namespace Go.Dk
open Go Go.RowKit
/-- between two pairs of equal elements -/
def gapC (B : List Stp → V → V → List Ch) (p : List Stp) (a b : List V) (i j m n : Nat) : List Ch :=
  (List.range (min m n)).flatMap (fun t => B (p ++ [idxS (j + t)]) (a.getD (i + t) nulV) (b.getD (j + t) nulV)) ++
  (List.range (m - n)).map (fun t => ⟨3, p ++ [idxS (j + n)], 0, a.getD (i + n + t) nulV, nulV⟩) ++
  (List.range (n - m)).map (fun t => ⟨2, p ++ [idxS (j + m + t)], 0, nulV, b.getD (j + m + t) nulV⟩)
def lstC (B : List Stp → V → V → List Ch) (p : List Stp) (a b : List V) : List (Nat × Nat) → Nat → Nat → List Ch
  | [], _, _ => []
  | (x, y) :: ps, i, j => gapC B p a b i j (x - i) (y - j) ++ lstC B p a b ps (x + 1) (y + 1)
/-- kept keys: the changes within -/
def kepC (B : List Stp → V → V → List Ch) (p : List Stp) (fb : Fs) : Fs → List Ch
  | [] => []
  | kv :: l => (match hasF kv.1 fb with | some u => B (p ++ [keyS kv.1]) kv.2 u | none => []) ++ kepC B p fb l
/-- keys that are gone; n were kept before -/
def remC (p : List Stp) (fb : Fs) : Fs → Nat → List Ch
  | [], _ => []
  | kv :: l, n => if (hasF kv.1 fb).isSome then remC p fb l (n + 1) else ⟨3, p ++ [keyS kv.1], n, kv.2, nulV⟩ :: remC p fb l n
/-- how many are kept -/
def nkep (fb : Fs) : Fs → Nat
  | [] => 0
  | kv :: l => (if (hasF kv.1 fb).isSome then 1 else 0) + nkep fb l
/-- new keys; the first stands at n -/
def addC (p : List Stp) (fa : Fs) : Fs → Nat → List Ch
  | [], _ => []
  | kv :: l, n => if (hasF kv.1 fa).isSome then addC p fa l n else ⟨2, p ++ [keyS kv.1], n, nulV, kv.2⟩ :: addC p fa l (n + 1)
def btw (E : V → V → Bool) : Nat → List Stp → V → V → List Ch
  | 0, _, _, _ => []
  | d + 1, p, a, b =>
    if E a b then []
    else if a.sc.kind = 7 ∧ b.sc.kind = 7 then kepC (btw E d) p b.fields a.fields ++ remC p b.fields a.fields 0 ++ addC p a.fields b.fields (nkep b.fields a.fields)
    else if a.sc.kind = 6 ∧ b.sc.kind = 6 then lstC (btw E d) p a.list b.list (common E a.list b.list ++ [(a.list.length, b.list.length)]) 0 0
    else [⟨1, p, 0, a, b⟩]
/-- a change in memory -/
def chA (A : Nat → Prop) (w : World) (c : Ch) (l : List Value) : Prop := ∃ ps o n, l = .int .i64 c.op :: ps :: .int .i64 c.pos :: (o ++ n) ∧ PthA A w ps c.path ∧ RepV A w c.old o ∧ RepV A w c.new n
theorem chA.mono {A A' : Nat → Prop} {w w' : World} (hA : ∀ b, A b → A' b) (hk : Keeps A w w') {c : Ch} {r : List Value} (h : chA A w c r) : chA A' w' c r := by
  obtain ⟨ps, o, n, e, h1, h2, h3⟩ := h
  exact ⟨ps, o, n, e, h1.mono hA hk, RepV.mono hA hk _ _ h2, RepV.mono hA hk _ _ h3⟩
theorem chA.len {A : Nat → Prop} {w : World} (c : Ch) (r : List Value) (h : chA A w c r) : r.length = 29 := by
  obtain ⟨ps, o, n, rfl, h1, h2, h3⟩ := h
  simp [h2.len, h3.len]
theorem chA.one {A : Nat → Prop} {w : World} (c : Ch) (r : List Value) (h : chA A w c r) : r.all (·.oneCell') = true := by
  obtain ⟨ps, o, n, rfl, h1, h2, h3⟩ := h
  simp only [List.all_cons, List.all_append, h1.one, h2.one, h3.one]; rfl
theorem Fz.chs {w w' : World} {L L' : List (Nat × Obj)} {R R' : List Row} (hz : Fz w L R w' L' R') {l : List Ch} {rs : List (List Value)} (h : Rws (chA (F w L R) w) l rs) : Rws (chA (F w' L' R') w') l rs := h.imp fun _ _ h => h.mono hz.up hz.kp
/-- a change all of whose blocks are there -/
theorem chA.chg {A : Nat → Prop} {w : World} (hA : ∀ b, A b → b < w.heap.size) {c : Ch} {r : List Value} (h : chA A w c r) : Chg w c r := by
  obtain ⟨ps, o, n, e, h1, h2, h3⟩ := h.mono hA (w' := w) (fun _ _ => rfl)
  exact ⟨ps, o, n, e, h1, h2, h3⟩
end Go.Dk
end
section
set_option linter.unusedVariables false
set_option linter.unusedSimpArgs false
namespace Go.Dk
open Go Go.RowKit
theorem kep_cnt {B : List Stp → V → V → List Ch} {d : Nat} (p : List Stp) (fb : Fs) : ∀ (fa : Fs) (m : Nat), (∀ q, ∀ kv ∈ fa, ∀ y, (B q kv.2 y).length ≤ tsz d kv.2 + tsz d y) →
    (kepC B p fb fa).length + (remC p fb fa m).length ≤ (fa.map fun kv => tsz d kv.2).sum + ((keysOf fa).map fun k => tO d (hasF k fb)).sum
  | [], m, hB => by simp [kepC, remC]
  | kv :: fa, m, hB => by
    have h1 := kep_cnt p fb fa m (fun q kv h => hB q kv (List.mem_cons_of_mem _ h))
    have h2 := kep_cnt p fb fa (m + 1) (fun q kv h => hB q kv (List.mem_cons_of_mem _ h))
    have h3 := tsz_pos d kv.2
    simp only [kepC, remC, List.map_cons, List.sum_cons, keysOf, List.length_append] at h1 h2 ⊢
    cases hu : hasF kv.1 fb with
    | none =>
      simp only [Option.isSome_none, Bool.false_eq_true, if_false, List.length_nil, List.length_cons]
      have z0 : tO d none = 0 := rfl
      omega
    | some u =>
      have h4 := hB (p ++ [keyS kv.1]) kv (List.mem_cons_self ..) u
      simp only [Option.isSome_some, if_true]
      have z1 : tO d (some u) = tsz d u := rfl
      omega
theorem add_cnt (d : Nat) (p : List Stp) (fa : Fs) (hn : (keysOf fa).Nodup) : ∀ (fb : Fs) (n : Nat),
    ((keysOf fa).map fun k => tO d (hasF k fb)).sum + (addC p fa fb n).length ≤ (fb.map fun kv => tsz d kv.2).sum
  | [], n => by
    have : ((keysOf fa).map fun k => tO d (hasF k [])) = (keysOf fa).map fun _ => 0 := by simp [hasF, tO]
    rw [this, sum_zero]; simp [addC]
  | kv :: fb, n => by
    have h1 := add_cnt d p fa hn fb n
    have h2 := add_cnt d p fa hn fb (n + 1)
    have h3 := tsz_pos d kv.2
    simp only [addC, List.map_cons, List.sum_cons]
    by_cases hk : (hasF kv.1 fa).isSome = true
    · rw [if_pos hk]
      have hs : ((keysOf fa).map fun k => tO d (hasF k (kv :: fb))).sum ≤ ((keysOf fa).map fun k => (if kv.1 = k then tsz d kv.2 else 0) + tO d (hasF k fb)).sum := sum_le (fun k => by
        unfold hasF
        rw [List.find?_cons]
        by_cases h : kv.1 = k
        · simp [h, tO]
        · simp [h]) _
      rw [sum_add] at hs
      have h4 := sum_one (a := kv.1) (c := tsz d kv.2) _ hn
      omega
    · rw [if_neg hk]
      have hs : ((keysOf fa).map fun k => tO d (hasF k (kv :: fb))) = (keysOf fa).map fun k => tO d (hasF k fb) := List.map_congr_left fun k hm => by
        unfold hasF
        rw [List.find?_cons]
        by_cases h : kv.1 = k
        · exact absurd (hasF_isSome.2 (h ▸ hm)) hk
        · simp [h]
      rw [hs, List.length_cons]
      omega
theorem maps_cnt {B : List Stp → V → V → List Ch} {d : Nat} (p : List Stp) (fa fb : Fs) (hB : ∀ q, ∀ kv ∈ fa, ∀ y, (B q kv.2 y).length ≤ tsz d kv.2 + tsz d y) (hn : (keysOf fa).Nodup) (m n : Nat) :
    (kepC B p fb fa ++ remC p fb fa m ++ addC p fa fb n).length ≤ (fa.map fun kv => tsz d kv.2).sum + (fb.map fun kv => tsz d kv.2).sum := by
  have h1 := kep_cnt p fb fa m hB
  have h2 := add_cnt d p fa hn fb n
  rw [List.length_append, List.length_append]
  omega
end Go.Dk
end
section
set_option linter.unusedVariables false
set_option linter.unusedSimpArgs false
namespace Go.Dk
open Go Go.RowKit
def segG (d : Nat) (l : List V) (i m : Nat) : Nat := ((List.range m).map fun t => tsz d (l.getD (i + t) nulV)).sum
def segS (d : Nat) (l : List V) (i : Nat) : Nat := ((l.drop i).map (tsz d)).sum
theorem segG_succ (d : Nat) (l : List V) (i m : Nat) : segG d l i (m + 1) = segG d l i m + tsz d (l.getD (i + m) nulV) := by
  unfold segG; rw [List.range_succ, List.map_append, List.sum_append]; simp
theorem segG_add (d : Nat) (l : List V) (i k : Nat) : ∀ r, segG d l i k + r ≤ segG d l i (k + r)
  | 0 => Nat.le_refl _
  | r + 1 => by
    have h1 := segG_add d l i k r
    have h2 := tsz_pos d (l.getD (i + (k + r)) nulV)
    rw [show k + (r + 1) = k + r + 1 by omega, segG_succ]
    omega
theorem segS_at (d : Nat) (l : List V) (i : Nat) (h : i < l.length) : segS d l i = tsz d (l.getD i nulV) + segS d l (i + 1) := by
  unfold segS
  rw [List.drop_eq_getElem_cons h, List.map_cons, List.sum_cons, List.getD_eq_getElem?_getD, List.getElem?_eq_getElem h]; rfl
theorem segS_le (d : Nat) (l : List V) (i : Nat) : segS d l (i + 1) ≤ segS d l i := by
  rcases Nat.lt_or_ge i l.length with h | h
  · rw [segS_at d l i h]; omega
  · unfold segS; rw [List.drop_eq_nil_of_le (by omega)]; simp
theorem segG_S (d : Nat) (l : List V) (i : Nat) : ∀ m, i + m ≤ l.length → segG d l i m + segS d l (i + m) = segS d l i
  | 0, _ => by simp [segG]
  | m + 1, h => by
    have h1 := segG_S d l i m (by omega)
    have h2 := segS_at d l (i + m) (by omega)
    rw [segG_succ, show i + (m + 1) = i + m + 1 by omega]
    omega
theorem gap_cnt {B : List Stp → V → V → List Ch} {d : Nat} (p : List Stp) (a b : List V) (hB : ∀ q i y, (B q (a.getD i nulV) y).length ≤ tsz d (a.getD i nulV) + tsz d y) (i j m n : Nat) : (gapC B p a b i j m n).length ≤ segG d a i m + segG d b j n := by
  have h1 : ((List.range (min m n)).flatMap (fun t => B (p ++ [idxS (j + t)]) (a.getD (i + t) nulV) (b.getD (j + t) nulV))).length ≤ segG d a i (min m n) + segG d b j (min m n) := by
    rw [List.length_flatMap]
    refine Nat.le_trans (sum_le (g := fun t => tsz d (a.getD (i + t) nulV) + tsz d (b.getD (j + t) nulV)) (fun t => hB _ _ _) _) ?_
    rw [sum_add]
    exact Nat.le_refl _
  have h2 := segG_add d a i (min m n) (m - n)
  have h3 := segG_add d b j (min m n) (n - m)
  rw [show min m n + (m - n) = m by omega] at h2
  rw [show min m n + (n - m) = n by omega] at h3
  unfold gapC
  simp only [List.length_append, List.length_map, List.length_range]
  omega
/-- pairs that rise, from i and j on -/
def IncP (la lb : Nat) : List (Nat × Nat) → Nat → Nat → Prop
  | [], _, _ => True
  | (x, y) :: ps, i, j => i ≤ x ∧ j ≤ y ∧ x ≤ la ∧ y ≤ lb ∧ IncP la lb ps (x + 1) (y + 1)
theorem lst_cnt {B : List Stp → V → V → List Ch} {d : Nat} (p : List Stp) (a b : List V) (hB : ∀ q i y, (B q (a.getD i nulV) y).length ≤ tsz d (a.getD i nulV) + tsz d y) : ∀ (ps : List (Nat × Nat)) (i j : Nat), IncP a.length b.length ps i j → (lstC B p a b ps i j).length ≤ segS d a i + segS d b j
  | [], i, j, _ => by simp [lstC]
  | (x, y) :: ps, i, j, h => by
    obtain ⟨h1, h2, h3, h4, h5⟩ := h
    have g1 := gap_cnt p a b hB i j (x - i) (y - j)
    have g2 := segG_S d a i (x - i) (by omega)
    have g3 := segG_S d b j (y - j) (by omega)
    rw [show i + (x - i) = x by omega] at g2
    rw [show j + (y - j) = y by omega] at g3
    have g4 := segS_le d a x
    have g5 := segS_le d b y
    have g6 := lst_cnt p a b hB ps (x + 1) (y + 1) h5
    simp only [lstC, List.length_append]
    omega
/-- few changes, where the pairs of all lists rise -/
theorem btw_cnt (E : V → V → Bool) (hI : ∀ a b : List V, IncP a.length b.length (common E a b ++ [(a.length, b.length)]) 0 0) : ∀ (d : Nat) (p : List Stp) (a b : V), okd d a → (btw E d p a b).length ≤ tsz d a + tsz d b
  | 0, p, a, b, _ => by simp [btw]
  | d + 1, p, a, b, ha => by
    have e1 : tsz (d + 1) a = 1 + ((a.list.map (tsz d)).sum + (a.fields.map fun kv => tsz d kv.2).sum) := rfl
    have e2 : tsz (d + 1) b = 1 + ((b.list.map (tsz d)).sum + (b.fields.map fun kv => tsz d kv.2).sum) := rfl
    unfold btw
    split
    · simp
    · split
      · have h := maps_cnt (B := btw E d) (d := d) p a.fields b.fields (fun q kv hk y => btw_cnt E hI d q kv.2 y (ha.2.2.2 kv hk)) ha.2.1 0 (nkep b.fields a.fields)
        omega
      · split
        · have h := lst_cnt (B := btw E d) (d := d) p a.list b.list (fun q i y => by
            cases d with
            | zero => simp [btw]
            | succ d =>
              refine btw_cnt E hI (d + 1) q _ y ?_
              rw [List.getD_eq_getElem?_getD]
              cases hx : a.list[i]? with
              | none => exact (gd_nul d 0).ok
              | some x => exact ha.2.2.1 x (List.mem_of_getElem? hx)) _ 0 0 (hI a.list b.list)
          have h0 : segS d a.list 0 = (a.list.map (tsz d)).sum := rfl
          have h1 : segS d b.list 0 = (b.list.map (tsz d)).sum := rfl
          omega
        · simp only [List.length_cons, List.length_nil]; omega
end Go.Dk
end
section
set_option linter.unusedVariables false
namespace Go.Dk
open Go Go.RowKit
theorem inc_of {la lb : Nat} : ∀ (l : List (Nat × Nat)) (i j : Nat), (∀ q ∈ l, i ≤ q.1 ∧ j ≤ q.2 ∧ q.1 < la ∧ q.2 < lb) → l.Pairwise Up → i ≤ la → j ≤ lb → IncP la lb (l ++ [(la, lb)]) i j
  | [], i, j, _, _, hi, hj => ⟨hi, hj, Nat.le_refl _, Nat.le_refl _, trivial⟩
  | (x, y) :: l, i, j, h, hp, hi, hj => by
    obtain ⟨h1, h2, h3, h4⟩ := h (x, y) (List.mem_cons_self ..)
    obtain ⟨hp1, hp2⟩ := List.pairwise_cons.1 hp
    have h3' : x < la := h3
    have h4' : y < lb := h4
    refine ⟨h1, h2, Nat.le_of_lt h3, Nat.le_of_lt h4, inc_of l (x + 1) (y + 1) (fun q hq => ?_) hp2 (by omega) (by omega)⟩
    have hu : x < q.1 ∧ y < q.2 := hp1 q hq
    have hb := h q (List.mem_cons_of_mem _ hq)
    exact ⟨by omega, by omega, hb.2.2⟩
theorem inc_common (E : V → V → Bool) (a b : List V) : IncP a.length b.length (common E a b ++ [(a.length, b.length)]) 0 0 := by
  obtain ⟨h1, h2, _⟩ := common_up E a b
  refine inc_of _ 0 0 (fun q hq => ⟨by omega, by omega, ?_⟩) h2 (by omega) (by omega)
  obtain ⟨e1, e2, _⟩ := h1 q hq
  exact ⟨e1, e2⟩
theorem btw_few (E : V → V → Bool) (d : Nat) (p : List Stp) (a b : V) (ha : okd d a) : (btw E d p a b).length ≤ tsz d a + tsz d b := btw_cnt E (inc_common E) d p a b ha
end Go.Dk
end
section
set_option linter.unusedVariables false
set_option linter.unusedSimpArgs false
namespace Go.Dk
open Go Go.RowKit
/-- all of B, or more than 4096 with the n before -/
def Sho (n : Nat) (B S : List Ch) : Prop := S.length ≤ B.length ∧ (S = B ∨ 4096 < n + S.length)
theorem Sho.refl (n : Nat) (B : List Ch) : Sho n B B := ⟨Nat.le_refl _, .inl rfl⟩
theorem Sho.stop {n : Nat} {B : List Ch} (h : 4096 < n) : Sho n B [] := ⟨Nat.zero_le _, .inr (by simpa using h)⟩
theorem Sho.append {n : Nat} {B B' S S' : List Ch} (h : Sho n B S) (h' : Sho (n + S.length) B' S') : Sho n (B ++ B') (S ++ S') := by
  obtain ⟨h1, h2⟩ := h
  obtain ⟨h3, h4⟩ := h'
  refine ⟨by rw [List.length_append, List.length_append]; omega, ?_⟩
  rw [List.length_append]
  rcases h2 with rfl | h2
  · rcases h4 with rfl | h4
    · exact .inl rfl
    · exact .inr (by omega)
  · exact .inr (by omega)
theorem Sho.nil (n : Nat) : Sho n [] [] := Sho.refl n []
theorem Sho.cast {n : Nat} {B B' S : List Ch} (h : Sho n B S) (e : B = B') : Sho n B' S := e ▸ h
theorem Sho.snoc {n : Nat} {B S : List Ch} (h : Sho n B S) (c : Ch) : Sho n (B ++ [c]) (S ++ [c]) := h.append (Sho.refl _ _)
/-! ### maps -/
theorem kepC_append (B : List Stp → V → V → List Ch) (p : List Stp) (fb : Fs) : ∀ (l l' : Fs), kepC B p fb (l ++ l') = kepC B p fb l ++ kepC B p fb l'
  | [], l' => rfl
  | kv :: l, l' => by simp only [List.cons_append, kepC, kepC_append B p fb l l', List.append_assoc]
theorem nkep_append (fb : Fs) : ∀ (l l' : Fs), nkep fb (l ++ l') = nkep fb l + nkep fb l'
  | [], l' => by simp [nkep]
  | kv :: l, l' => by simp only [List.cons_append, nkep, nkep_append fb l l', Nat.add_assoc]
theorem nkep_le (fb : Fs) : ∀ l : Fs, nkep fb l ≤ l.length
  | [] => by simp [nkep]
  | kv :: l => by
    have := nkep_le fb l
    simp only [nkep, List.length_cons]
    split <;> omega
theorem remC_append (p : List Stp) (fb : Fs) : ∀ (l l' : Fs) (n : Nat), remC p fb (l ++ l') n = remC p fb l n ++ remC p fb l' (n + nkep fb l)
  | [], l', n => by simp [remC, nkep]
  | kv :: l, l', n => by
    simp only [List.cons_append, remC, nkep]
    split
    · rw [remC_append p fb l l', show n + 1 + nkep fb l = n + (1 + nkep fb l) by omega]
    · rw [remC_append p fb l l', Nat.zero_add]; rfl
theorem addC_append (p : List Stp) (fa : Fs) : ∀ (l l' : Fs) (n : Nat), addC p fa (l ++ l') n = addC p fa l n ++ addC p fa l' (n + (l.length - nkep fa l))
  | [], l', n => by simp [addC, nkep]
  | kv :: l, l', n => by
    have := nkep_le fa l
    simp only [List.cons_append, addC, nkep, List.length_cons]
    split
    · rw [addC_append p fa l l', show l.length + 1 - (1 + nkep fa l) = l.length - nkep fa l by omega]
    · rw [addC_append p fa l l', show n + (l.length + 1 - (0 + nkep fa l)) = n + 1 + (l.length - nkep fa l) by omega]; rfl
theorem take_snoc {α : Type} {l : List α} {i : Nat} (hi : i < l.length) : l.take (i + 1) = l.take i ++ [l[i]] := by
  rw [List.take_add_one, List.getElem?_eq_getElem hi]; rfl
theorem kepC_take (B : List Stp → V → V → List Ch) (p : List Stp) (fb : Fs) {l : Fs} {i : Nat} (hi : i < l.length) : kepC B p fb (l.take (i + 1)) = kepC B p fb (l.take i) ++ (match hasF l[i].1 fb with | some u => B (p ++ [keyS l[i].1]) l[i].2 u | none => []) := by
  rw [take_snoc hi, kepC_append]; simp only [kepC, List.append_nil]; try rfl
theorem nkep_take (fb : Fs) {l : Fs} {i : Nat} (hi : i < l.length) : nkep fb (l.take (i + 1)) = nkep fb (l.take i) + (if (hasF l[i].1 fb).isSome then 1 else 0) := by
  rw [take_snoc hi, nkep_append]; simp only [nkep, Nat.add_zero]
theorem remC_take (p : List Stp) (fb : Fs) {l : Fs} {i : Nat} (hi : i < l.length) : remC p fb (l.take (i + 1)) 0 = remC p fb (l.take i) 0 ++ (if (hasF l[i].1 fb).isSome then [] else [⟨3, p ++ [keyS l[i].1], nkep fb (l.take i), l[i].2, nulV⟩]) := by
  rw [take_snoc hi, remC_append]; simp only [remC, Nat.zero_add]
theorem addC_take (p : List Stp) (fa : Fs) (n : Nat) {l : Fs} {i : Nat} (hi : i < l.length) : addC p fa (l.take (i + 1)) n = addC p fa (l.take i) n ++ (if (hasF l[i].1 fa).isSome then [] else [⟨2, p ++ [keyS l[i].1], ((n + (i - nkep fa (l.take i)) : Nat) : Int), nulV, l[i].2⟩]) := by
  rw [take_snoc hi, addC_append]; simp only [addC, List.length_take, Nat.min_eq_left (Nat.le_of_lt hi)]
theorem kepC_le (B : List Stp → V → V → List Ch) (p : List Stp) (fb : Fs) (l : Fs) (i : Nat) : (kepC B p fb (l.take i)).length ≤ (kepC B p fb l).length := by
  conv => rhs; rw [← List.take_append_drop i l, kepC_append, List.length_append]
  omega
theorem remC_le (p : List Stp) (fb : Fs) (l : Fs) (i : Nat) : (remC p fb (l.take i) 0).length ≤ (remC p fb l 0).length := by
  conv => rhs; rw [← List.take_append_drop i l, remC_append, List.length_append]
  omega
theorem addC_le (p : List Stp) (fa : Fs) (n : Nat) (l : Fs) (i : Nat) : (addC p fa (l.take i) n).length ≤ (addC p fa l n).length := by
  conv => rhs; rw [← List.take_append_drop i l, addC_append, List.length_append]
  omega
/-! ### lists -/
/-- where the next gap begins -/
def aft : List (Nat × Nat) → Nat → Nat → Nat × Nat
  | [], i, j => (i, j)
  | (x, y) :: ps, _, _ => aft ps (x + 1) (y + 1)
theorem aft_append : ∀ (ps qs : List (Nat × Nat)) (i j : Nat), aft (ps ++ qs) i j = aft qs (aft ps i j).1 (aft ps i j).2
  | [], qs, i, j => rfl
  | (x, y) :: ps, qs, i, j => by simp only [List.cons_append, aft, aft_append ps qs]
theorem lstC_append (B : List Stp → V → V → List Ch) (p : List Stp) (a b : List V) : ∀ (ps qs : List (Nat × Nat)) (i j : Nat), lstC B p a b (ps ++ qs) i j = lstC B p a b ps i j ++ lstC B p a b qs (aft ps i j).1 (aft ps i j).2
  | [], qs, i, j => rfl
  | (x, y) :: ps, qs, i, j => by simp only [List.cons_append, lstC, aft, lstC_append B p a b ps qs, List.append_assoc]
theorem lstC_take (B : List Stp → V → V → List Ch) (p : List Stp) (a b : List V) {ps : List (Nat × Nat)} {t : Nat} (ht : t < ps.length) :
    lstC B p a b (ps.take (t + 1)) 0 0 = lstC B p a b (ps.take t) 0 0 ++ gapC B p a b (aft (ps.take t) 0 0).1 (aft (ps.take t) 0 0).2 (ps[t].1 - (aft (ps.take t) 0 0).1) (ps[t].2 - (aft (ps.take t) 0 0).2) := by
  rw [take_snoc ht, lstC_append]
  congr 1
  show lstC B p a b ((ps[t].1, ps[t].2) :: []) _ _ = _
  simp only [lstC, List.append_nil]
theorem aft_take {ps : List (Nat × Nat)} {t : Nat} (ht : t < ps.length) : aft (ps.take (t + 1)) 0 0 = (ps[t].1 + 1, ps[t].2 + 1) := by
  rw [take_snoc ht, aft_append]
  show aft ((ps[t].1, ps[t].2) :: []) _ _ = _
  rfl
theorem lstC_le (B : List Stp → V → V → List Ch) (p : List Stp) (a b : List V) (ps : List (Nat × Nat)) (t : Nat) : (lstC B p a b (ps.take t) 0 0).length ≤ (lstC B p a b ps 0 0).length := by
  conv => rhs; rw [← List.take_append_drop t ps, lstC_append, List.length_append]
  omega
/-- the pairs rise, so each gap begins before its end -/
theorem inc_aft {la lb : Nat} : ∀ (ps : List (Nat × Nat)) (i j t : Nat) (h : IncP la lb ps i j) (ht : t < ps.length), (aft (ps.take t) i j).1 ≤ ps[t].1 ∧ (aft (ps.take t) i j).2 ≤ ps[t].2 ∧ ps[t].1 ≤ la ∧ ps[t].2 ≤ lb
  | [], i, j, t, h, ht => by simp at ht
  | (x, y) :: ps, i, j, 0, h, ht => by
    simp only [IncP] at h
    simp only [List.take_zero, aft, List.getElem_cons_zero]
    omega
  | (x, y) :: ps, i, j, t + 1, h, ht => by
    simp only [IncP] at h
    simp only [List.take_succ_cons, aft, List.getElem_cons_succ]
    exact inc_aft ps (x + 1) (y + 1) t h.2.2.2.2 (by simpa using ht)
end Go.Dk
namespace Go.Dk
open Go Go.RowKit
/-! ### within a gap -/
def gp1 (B : List Stp → V → V → List Ch) (p : List Stp) (a b : List V) (i j s : Nat) : List Ch := (List.range s).flatMap (fun t => B (p ++ [idxS (j + t)]) (a.getD (i + t) nulV) (b.getD (j + t) nulV))
def gp2 (p : List Stp) (a : List V) (i j n s : Nat) : List Ch := (List.range s).map (fun t => ⟨3, p ++ [idxS (j + n)], 0, a.getD (i + n + t) nulV, nulV⟩)
def gp3 (p : List Stp) (b : List V) (j m s : Nat) : List Ch := (List.range s).map (fun t => ⟨2, p ++ [idxS (j + m + t)], 0, nulV, b.getD (j + m + t) nulV⟩)
theorem gapC_eq (B : List Stp → V → V → List Ch) (p : List Stp) (a b : List V) (i j m n : Nat) : gapC B p a b i j m n = gp1 B p a b i j (min m n) ++ gp2 p a i j n (m - n) ++ gp3 p b j m (n - m) := rfl
theorem gp1_succ (B : List Stp → V → V → List Ch) (p : List Stp) (a b : List V) (i j s : Nat) : gp1 B p a b i j (s + 1) = gp1 B p a b i j s ++ B (p ++ [idxS (j + s)]) (a.getD (i + s) nulV) (b.getD (j + s) nulV) := by
  unfold gp1; rw [List.range_succ, List.flatMap_append]; simp
theorem gp2_succ (p : List Stp) (a : List V) (i j n s : Nat) : gp2 p a i j n (s + 1) = gp2 p a i j n s ++ [⟨3, p ++ [idxS (j + n)], 0, a.getD (i + n + s) nulV, nulV⟩] := by
  unfold gp2; rw [List.range_succ, List.map_append]; rfl
theorem gp3_succ (p : List Stp) (b : List V) (j m s : Nat) : gp3 p b j m (s + 1) = gp3 p b j m s ++ [⟨2, p ++ [idxS (j + m + s)], 0, nulV, b.getD (j + m + s) nulV⟩] := by
  unfold gp3; rw [List.range_succ, List.map_append]; rfl
theorem gp1_le (B : List Stp → V → V → List Ch) (p : List Stp) (a b : List V) (i j : Nat) {s t : Nat} (h : s ≤ t) : (gp1 B p a b i j s).length ≤ (gp1 B p a b i j t).length := by
  obtain ⟨r, rfl⟩ := Nat.exists_eq_add_of_le h
  induction r with
  | zero => exact Nat.le_refl _
  | succ r ih =>
    rw [← Nat.add_assoc, gp1_succ, List.length_append]
    have := ih (by omega)
    omega
theorem gp2_len (p : List Stp) (a : List V) (i j n s : Nat) : (gp2 p a i j n s).length = s := by simp [gp2]
theorem gp3_len (p : List Stp) (b : List V) (j m s : Nat) : (gp3 p b j m s).length = s := by simp [gp3]
theorem gp1_zero (B : List Stp → V → V → List Ch) (p : List Stp) (a b : List V) (i j : Nat) : gp1 B p a b i j 0 = [] := rfl
theorem gp2_zero (p : List Stp) (a : List V) (i j n : Nat) : gp2 p a i j n 0 = [] := rfl
theorem gp3_zero (p : List Stp) (b : List V) (j m : Nat) : gp3 p b j m 0 = [] := rfl
end Go.Dk
namespace Go.Dk
open Go Go.RowKit
section
variable {E : V → V → Bool} {d : Nat} {p : List Stp} {a b : V}
theorem btw_eq (h : E a b = true) : btw E (d + 1) p a b = [] := by unfold btw; rw [if_pos h]
theorem btw_map (h : E a b = false) (h1 : a.sc.kind = 7) (h2 : b.sc.kind = 7) : btw E (d + 1) p a b = kepC (btw E d) p b.fields a.fields ++ remC p b.fields a.fields 0 ++ addC p a.fields b.fields (nkep b.fields a.fields) := by
  conv => lhs; unfold btw
  rw [if_neg (by rw [h]; simp), if_pos ⟨h1, h2⟩]
theorem btw_lst (h : E a b = false) (hk : ¬ (a.sc.kind = 7 ∧ b.sc.kind = 7)) (h1 : a.sc.kind = 6) (h2 : b.sc.kind = 6) : btw E (d + 1) p a b = lstC (btw E d) p a.list b.list (common E a.list b.list ++ [(a.list.length, b.list.length)]) 0 0 := by
  conv => lhs; unfold btw
  rw [if_neg (by rw [h]; simp), if_neg hk, if_pos ⟨h1, h2⟩]
theorem btw_rep (h : E a b = false) (hk : ¬ (a.sc.kind = 7 ∧ b.sc.kind = 7)) (hl : ¬ (a.sc.kind = 6 ∧ b.sc.kind = 6)) : btw E (d + 1) p a b = [⟨1, p, 0, a, b⟩] := by
  conv => lhs; unfold btw
  rw [if_neg (by rw [h]; simp), if_neg hk, if_neg hl]
end
end Go.Dk
end
section
set_option linter.unusedVariables false
set_option linter.unusedSimpArgs false
namespace Go.Dk
open Go Go.RowKit
theorem rem_all {Q : Ch → Prop} (p : List Stp) (fb : Fs) : ∀ (fa : Fs) (n : Nat), (∀ kv ∈ fa, ∀ m : Nat, Q ⟨3, p ++ [keyS kv.1], m, kv.2, nulV⟩) → ∀ c ∈ remC p fb fa n, Q c
  | [], n, h => fun c hc => by simp [remC] at hc
  | kv :: fa, n, h => fun c hc => by
    simp only [remC] at hc
    split at hc
    · exact rem_all p fb fa _ (fun kv hk => h kv (List.mem_cons_of_mem _ hk)) c hc
    · rcases List.mem_cons.1 hc with rfl | hc
      · exact h kv (List.mem_cons_self ..) n
      · exact rem_all p fb fa _ (fun kv hk => h kv (List.mem_cons_of_mem _ hk)) c hc
theorem add_all {Q : Ch → Prop} (p : List Stp) (fa : Fs) : ∀ (fb : Fs) (n : Nat), (∀ kv ∈ fb, ∀ m : Nat, Q ⟨2, p ++ [keyS kv.1], m, nulV, kv.2⟩) → ∀ c ∈ addC p fa fb n, Q c
  | [], n, h => fun c hc => by simp [addC] at hc
  | kv :: fb, n, h => fun c hc => by
    simp only [addC] at hc
    split at hc
    · exact add_all p fa fb _ (fun kv hk => h kv (List.mem_cons_of_mem _ hk)) c hc
    · rcases List.mem_cons.1 hc with rfl | hc
      · exact h kv (List.mem_cons_self ..) n
      · exact add_all p fa fb _ (fun kv hk => h kv (List.mem_cons_of_mem _ hk)) c hc
theorem kep_all {Q : Ch → Prop} {B : List Stp → V → V → List Ch} (p : List Stp) (fb : Fs) : ∀ (fa : Fs), (∀ kv ∈ fa, ∀ u, hasF kv.1 fb = some u → ∀ c ∈ B (p ++ [keyS kv.1]) kv.2 u, Q c) → ∀ c ∈ kepC B p fb fa, Q c
  | [], h => fun c hc => by simp [kepC] at hc
  | kv :: fa, h => fun c hc => by
    simp only [kepC, List.mem_append] at hc
    rcases hc with hc | hc
    · cases hu : hasF kv.1 fb with
      | none => rw [hu] at hc; cases hc
      | some u => rw [hu] at hc; exact h kv (List.mem_cons_self ..) u hu c hc
    · exact kep_all p fb fa (fun kv hk => h kv (List.mem_cons_of_mem _ hk)) c hc
theorem lst_all {Q : Ch → Prop} {B : List Stp → V → V → List Ch} (p : List Stp) (a b : List V) (hB : ∀ i j k : Nat, ∀ c ∈ B (p ++ [idxS k]) (a.getD i nulV) (b.getD j nulV), Q c) (hr : ∀ i k : Nat, Q ⟨3, p ++ [idxS k], 0, a.getD i nulV, nulV⟩) (ha : ∀ i k : Nat, Q ⟨2, p ++ [idxS k], 0, nulV, b.getD i nulV⟩) : ∀ (ps : List (Nat × Nat)) (i j : Nat), ∀ c ∈ lstC B p a b ps i j, Q c
  | [], i, j => fun c hc => by simp [lstC] at hc
  | (x, y) :: ps, i, j => fun c hc => by
    simp only [lstC, gapC, List.mem_append, List.mem_flatMap, List.mem_map] at hc
    rcases hc with ((⟨t, _, hc⟩ | ⟨t, _, rfl⟩) | ⟨t, _, rfl⟩) | hc
    · exact hB _ _ _ c hc
    · exact hr _ _
    · exact ha _ _
    · exact lst_all p a b hB hr ha ps _ _ c hc
theorem fine_at {l : List V} (h : ∀ x ∈ l, Fine x) (i : Nat) : Fine (l.getD i nulV) := by
  rw [List.getD_eq_getElem?_getD]
  cases hx : l[i]? with
  | none => exact fine_nul
  | some x => exact h x (List.mem_of_getElem? hx)
/-- paths are short, values fine -/
theorem btw_good (E : V → V → Bool) : ∀ (d : Nat) (p : List Stp) (a b : V), Fine a → Fine b → ∀ c ∈ btw E d p a b, c.path.length ≤ p.length + d ∧ Fine c.old ∧ Fine c.new
  | 0, p, a, b, _, _ => fun c hc => by simp [btw] at hc
  | d + 1, p, a, b, ha, hb => by
    have up : ∀ (s : Stp) (x y : V), Fine x → Fine y → ∀ c ∈ btw E d (p ++ [s]) x y, c.path.length ≤ p.length + (d + 1) ∧ Fine c.old ∧ Fine c.new := fun s x y hx hy c hc => by
      have h := btw_good E d (p ++ [s]) x y hx hy c hc
      refine ⟨?_, h.2⟩
      have h1 := h.1
      simp only [List.length_append, List.length_cons, List.length_nil] at h1
      omega
    have ln : ∀ s : Stp, (p ++ [s]).length ≤ p.length + (d + 1) := fun s => by simp
    unfold btw
    split
    · exact fun c hc => by cases hc
    · split
      · intro c hc
        rcases List.mem_append.1 hc with hc | hc
        · rcases List.mem_append.1 hc with hc | hc
          · exact kep_all (Q := fun c => c.path.length ≤ p.length + (d + 1) ∧ Fine c.old ∧ Fine c.new) p b.fields a.fields (fun kv hk u hu => up _ _ _ (ha.field hk).2 (hb.field (hasF_mem hu)).2) c hc
          · exact rem_all (Q := fun c => c.path.length ≤ p.length + (d + 1) ∧ Fine c.old ∧ Fine c.new) p b.fields a.fields 0 (fun kv hk m => ⟨ln _, (ha.field hk).2, fine_nul⟩) c hc
        · exact add_all (Q := fun c => c.path.length ≤ p.length + (d + 1) ∧ Fine c.old ∧ Fine c.new) p a.fields b.fields _ (fun kv hk m => ⟨ln _, fine_nul, (hb.field hk).2⟩) c hc
      · split
        · exact lst_all (Q := fun c => c.path.length ≤ p.length + (d + 1) ∧ Fine c.old ∧ Fine c.new) p a.list b.list (fun i j k => up _ _ _ (fine_at (fun x hx => ha.elem hx) i) (fine_at (fun x hx => hb.elem hx) j)) (fun i k => ⟨ln _, fine_at (fun x hx => ha.elem hx) i, fine_nul⟩) (fun i k => ⟨ln _, fine_nul, fine_at (fun x hx => hb.elem hx) i⟩) _ 0 0
        · intro c hc
          have e : c = ⟨1, p, 0, a, b⟩ := by simpa using hc
          subst e
          exact ⟨by simp, ha, hb⟩
end Go.Dk
end
section
set_option linter.unusedVariables false
set_option linter.unusedSimpArgs false
namespace Go.Dk
open Go Go.RowKit
def kids (v : V) : List V := v.list ++ v.fields.map (·.2)
/-- lists that the comparison can hold a table for, at all depths -/
def Nar : Nat → V → V → Prop
  | 0, _, _ => True
  | d + 1, a, b => a.list.length ≤ 6000 ∧ b.list.length ≤ 6000 ∧ a.list.length * b.list.length ≤ 40000 ∧ ∀ x ∈ kids a, ∀ y ∈ kids b, Nar d x y
theorem Nar.field {d : Nat} {a b : V} (h : Nar (d + 1) a b) {kv : ByteArray × V} (hk : kv ∈ a.fields) {k : ByteArray} {u : V} (hu : hasF k b.fields = some u) : Nar d kv.2 u :=
  h.2.2.2 _ (List.mem_append_right _ (List.mem_map.2 ⟨kv, hk, rfl⟩)) _ (List.mem_append_right _ (List.mem_map.2 ⟨_, hasF_mem hu, rfl⟩))
theorem Nar.elem {d : Nat} {a b : V} (h : Nar (d + 1) a b) {x y : V} (hx : x ∈ a.list) (hy : y ∈ b.list) : Nar d x y :=
  h.2.2.2 _ (List.mem_append_left _ hx) _ (List.mem_append_left _ hy)
theorem chs_flat {A : Nat → Prop} {w : World} {l : List Ch} {rs : List (List Value)} (h : Rws (chA A w) l rs) : rs.flatten.length = l.length * 29 := (h.flat chA.len).1
theorem chs_one {A : Nat → Prop} {w : World} {l : List Ch} {rs : List (List Value)} (h : Rws (chA A w) l rs) : rs.flatten.all (·.oneCell') = true := h.one chA.one
/-- the changes S stand behind the n that were there, in a slice of the call's own -/
def LpC (wb w0 : World) (L : List (Nat × Obj)) (R0 : List Row) (L2 : List (Nat × Obj)) (R : List Row) (n : Nat) (cs : List Value) (S : List Ch) (v : Value) (rs : List (List Value)) (w1 : World) : Prop :=
  Cxr wb w1 L2 (⟨35, 29, v, n + S.length, cs ++ rs.flatten⟩ :: R) ∧ Fz w0 L R0 w1 L2 (⟨35, 29, v, n + S.length, cs ++ rs.flatten⟩ :: R) ∧ Rws (chA (F w1 L2 (⟨35, 29, v, n + S.length, cs ++ rs.flatten⟩ :: R)) w1) S rs
theorem LpC.of {wb w0 : World} {L : List (Nat × Obj)} {R0 : List Row} {L2 : List (Nat × Obj)} {R : List Row} {n : Nat} {cs : List Value} {S : List Ch} {v : Value} {rs : List (List Value)} {w1 : World} {k : Nat} {X : List Value}
    (h1 : k = n + S.length) (h2 : X = cs ++ rs.flatten) (cx : Cxr wb w1 L2 (⟨35, 29, v, k, X⟩ :: R)) (hz : Fz w0 L R0 w1 L2 (⟨35, 29, v, k, X⟩ :: R)) (hc : Rws (chA (F w1 L2 (⟨35, 29, v, k, X⟩ :: R)) w1) S rs) : LpC wb w0 L R0 L2 R n cs S v rs w1 := by
  subst h1 h2; exact ⟨cx, hz, hc⟩
theorem LpC.cast {wb w0 : World} {L : List (Nat × Obj)} {R0 : List Row} {L2 : List (Nat × Obj)} {R : List Row} {n : Nat} {cs : List Value} {S S' : List Ch} {v : Value} {rs : List (List Value)} {w1 : World} (h : LpC wb w0 L R0 L2 R n cs S v rs w1) (e : S = S') : LpC wb w0 L R0 L2 R n cs S' v rs w1 := e ▸ h
theorem LpC.drop {wb w0 : World} {L : List (Nat × Obj)} {R0 : List Row} {L2 : List (Nat × Obj)} {R : List Row} {n : Nat} {cs : List Value} {S : List Ch} {v : Value} {rs : List (List Value)} {w1 : World} (h : LpC wb w0 L R0 L2 R n cs S v rs w1) (k : Nat) : LpC wb w0 L R0 (L2.drop k) R n cs S v rs w1 :=
  ⟨h.1.drop k, h.2.1.trans (Fz.dropL k), (Fz.dropL k).chs h.2.2⟩
/-- what the reference leaves: a slice of its own that holds B -/
def BtR (wb w0 : World) (L : List (Nat × Obj)) (R : List Row) (B : List Ch) (x : Value) (w' : World) : Prop := ∃ rs, LpC wb w0 L R L R 0 [] B x rs w'
theorem BtR.cast {wb w0 : World} {L : List (Nat × Obj)} {R : List Row} {B B' : List Ch} {x : Value} {w' : World} (e : B = B') (h : BtR wb w0 L R B' x w') : BtR wb w0 L R B x w' := by subst e; exact h
/-- what the program leaves: all of B behind what was there, or so much that it is too much -/
def BtP (wb w0 : World) (L : List (Nat × Obj)) (R : List Row) (v : Value) (n : Nat) (cs : List Value) (B : List Ch) (x : Value) (w' : World) : Prop := ∃ S rs, Sho n B S ∧ LpC wb w0 L (⟨35, 29, v, n, cs⟩ :: R) L R n cs S x rs w'
theorem BtP.cast {wb w0 : World} {L : List (Nat × Obj)} {R : List Row} {v : Value} {n : Nat} {cs : List Value} {B B' : List Ch} {x : Value} {w' : World} (e : B = B') (h : BtP wb w0 L R v n cs B' x w') : BtP wb w0 L R v n cs B x w' := by subst e; exact h
theorem LpC.zero {wb w0 w1 : World} {L : List (Nat × Obj)} {R0 : List Row} {L2 : List (Nat × Obj)} {R : List Row} {n : Nat} {cs : List Value} {v : Value} (cx : Cxr wb w1 L2 (⟨35, 29, v, n, cs⟩ :: R)) (hz : Fz w0 L R0 w1 L2 (⟨35, 29, v, n, cs⟩ :: R)) : LpC wb w0 L R0 L2 R n cs [] v [] w1 :=
  LpC.of (k := n) (X := cs) rfl (by simp) cx hz trivial
/-- the list of a call, joined -/
theorem sho_le {n : Nat} {B S : List Ch} (h : Sho n B S) {T X : List Ch} (hT : n + T.length ≤ 1048576) (hp : B.length + X.length ≤ T.length) : n + S.length + X.length ≤ 1048576 := by
  have := h.1
  omega
theorem fld_at {w w' : World} {L L' : List (Nat × Obj)} {R R' : List Row} (hz : Fz w L R w' L' R') {b o : Nat} {l : Fs} (hr : RepFs (F w L R) w b o l) {i : Nat} (hi : i < l.length) (hb : F w L R b) :
    ∃ r, RowAt w' b (o + i * 14) (.string l[i].1 :: r) ∧ RepV (F w' L' R') w' l[i].2 r := by
  obtain ⟨r, h1, h2⟩ := RepFs.get l o i l[i] hr (List.getElem?_eq_getElem hi)
  exact ⟨r, hz.row h1 hb, hz.rep h2⟩
theorem lst_at {w w' : World} {L L' : List (Nat × Obj)} {R R' : List Row} (hz : Fz w L R w' L' R') {b o : Nat} {l : List V} (hr : RepLs (F w L R) w b o l) {i : Nat} (hi : i < l.length) (hb : F w L R b) :
    ∃ r, RowAt w' b (o + i * 13) r ∧ RepV (F w' L' R') w' l[i] r := by
  obtain ⟨r, h1, h2⟩ := RepLs.get l o i l[i] hr (List.getElem?_eq_getElem hi)
  exact ⟨r, hz.row h1 hb, hz.rep h2⟩
theorem getD_at {l : List V} {i : Nat} (hi : i < l.length) : l.getD i nulV = l[i] := by rw [List.getD, List.getElem?_eq_getElem hi]; rfl
end Go.Dk
namespace Go.Dk
open Go Go.RowKit
/-! ### steps of what stays, read off the context that a step leaves -/
section
variable {wb w w' w'' : World} {L : List (Nat × Obj)} {R : List Row} {b : Nat} {o o' : Obj}
theorem Fz.newC (cx : Cxr wb w' ((b, o) :: L) R) (hb : w.heap.size = b) (hw : Below w.heap.size w w') : Fz w L R w' ((b, o) :: L) R := Fz.new hb hw
theorem Fz.newSet (cx : Cxr wb w'' ((b, o') :: L) R) (hb : w.heap.size = b) (hw : Below w.heap.size w w') (hg : w'.grownBy w'' (some b)) : Fz w L R w'' ((b, o') :: L) R :=
  (Fz.new (o := .map #[] 0) hb hw).trans (Fz.set (i := 0) (o' := o') rfl hg)
theorem Fz.belC (cx : Cxr wb w' L R) (hw : Below w.heap.size w w') : Fz w L R w' L R := Fz.below hw
theorem Fz.appC {e k n n' : Nat} {v v' : Value} {xs xs' : List Value} (cx : Cxr wb w' L (⟨e, k, v', n', xs'⟩ :: R)) (hg : w.grownBy w' v.ownBlock) (hn : ∀ q, v'.ownBlock = some q → v.ownBlock = some q ∨ w.heap.size ≤ q) : Fz w L (⟨e, k, v, n, xs⟩ :: R) w' L (⟨e, k, v', n', xs'⟩ :: R) :=
  Fz.app (r := ⟨e, k, v, n, xs⟩) (r' := ⟨e, k, v', n', xs'⟩) hg hn
theorem Fz.tlR {r : Row} : Fz w L (r :: R) w L R := Fz.dropR 1
theorem Cxr.tlR {r : Row} (h : Cxr wb w L (r :: R)) : Cxr wb w L R := h.dropR 1
theorem Fz.ch1 {L' : List (Nat × Obj)} {R' : List Row} (hz : Fz w L R w' L' R') {c : Ch} {r : List Value} (h : chA (F w L R) w c r) : chA (F w' L' R') w' c r := h.mono hz.up hz.kp
theorem Cxr.row2 {r : Row} {e k n : Nat} {v : Value} {xs : List Value} (h : Cxr wb w L (r :: ⟨e, k, v, n, xs⟩ :: R)) : w.ownsRow wb.heap.size e k v n xs := h.rows ⟨e, k, v, n, xs⟩ (List.mem_cons_of_mem _ (List.mem_cons_self ..))
end
end Go.Dk
namespace Go.Dk
open Go Go.RowKit
/-- a literal's block as a slice of the call's own -/
theorem Fz.toRow {w : World} {L : List (Nat × Obj)} {R : List Row} {b e k n c : Nat} {o : Obj} {cs : List Value} : Fz w ((b, o) :: L) R w L (⟨e, k, .slice (some ⟨b, 0, none⟩) n c, n, cs⟩ :: R) :=
  ⟨fun q h => ⟨h.1, fun hm => h.2.1 (by rw [List.map_cons]; exact List.mem_cons_of_mem _ hm), fun r hr => by
    rcases List.mem_cons.1 hr with rfl | hr
    · intro e
      have e' : some b = some q := e
      have e2 : b = q := Option.some.inj e'
      exact h.2.1 (by rw [List.map_cons, e2]; exact List.mem_cons_self ..)
    · exact h.2.2 r hr⟩, fun _ _ => rfl, Nat.le_refl _⟩
theorem gapC_M (B : List Stp → V → V → List Ch) (p : List Stp) (a b : List V) (i j m n M : Nat) (hM : M = min m n) : gapC B p a b i j m n = gp1 B p a b i j M ++ gp2 p a i j M (m - n) ++ gp3 p b j M (n - m) := by
  rw [gapC_eq, ← hM]
  have h2 : gp2 p a i j n (m - n) = gp2 p a i j M (m - n) := by
    rcases Nat.le_total m n with h | h
    · rw [show m - n = 0 by omega]; rfl
    · rw [show M = n by omega]
  have h3 : gp3 p b j m (n - m) = gp3 p b j M (n - m) := by
    rcases Nat.le_total n m with h | h
    · rw [show n - m = 0 by omega]; rfl
    · rw [show M = m by omega]
  rw [h2, h3]
end Go.Dk
namespace Go.Dk
open Go Go.RowKit
/-- the cells hold the value, where there is one -/
def RepO (A : Nat → Prop) (w : World) (o : Option V) (l : List Value) : Prop := ∀ u, o = some u → RepV A w u l
theorem Fz.repO {w w' : World} {L L' : List (Nat × Obj)} {R R' : List Row} (hz : Fz w L R w' L' R') {o : Option V} {l : List Value} (h : RepO (F w L R) w o l) : RepO (F w' L' R') w' o l := fun u e => hz.rep (h u e)
/-- a copy of a field, if there is one -/
theorem RepO.copied {wb w w' : World} {L : List (Nat × Obj)} {R : List Row} {o : Option V} {l : List Value} {bb : Bool} (cx : Cxr wb w L R) (hw : Below w.heap.size w w') (hm : match o with | some u => bb = true ∧ Made w w' u (.agg l.toArray) | none => bb = false) : bb = o.isSome ∧ RepO (F w' L R) w' o l := by
  cases o with
  | none => exact ⟨hm, fun u e => by cases e⟩
  | some u =>
    refine ⟨hm.1, fun u' e => ?_⟩
    cases e
    obtain ⟨r, e, hr⟩ := hm.2.rep
    obtain rfl : l = r := by simpa using e
    exact hr.fr cx hw.size
theorem Made.fr {wb w w' : World} {L : List (Nat × Obj)} {R : List Row} {v : V} {x : Value} (h : Made w w' v x) (cx : Cxr wb w L R) (hw : Below w.heap.size w w') : ∃ bs ls fs, x = .agg (vrow v.sc bs ls fs).toArray ∧ RepV (F w' L R) w' v (vrow v.sc bs ls fs) := by
  obtain ⟨r, e, hr⟩ := h.rep
  obtain ⟨bs, ls, fs, rfl, _⟩ := hr.open
  exact ⟨bs, ls, fs, e, hr.fr cx hw.size⟩
end Go.Dk
end
section
set_option linter.unusedVariables false
set_option linter.unusedSimpArgs false
namespace Go.Dk
open Go Go.RowKit
theorem sum_ge {α : Type} (f : α → Nat) : ∀ (l : List α), (∀ x ∈ l, 1 ≤ f x) → l.length ≤ (l.map f).sum
  | [], _ => by simp
  | x :: l, h => by
    have h1 := h x (List.mem_cons_self ..)
    have h2 := sum_ge f l (fun y hy => h y (List.mem_cons_of_mem _ hy))
    simp only [List.map_cons, List.sum_cons, List.length_cons]; omega
theorem mem_sum {α : Type} (f : α → Nat) : ∀ (l : List α) (x : α), x ∈ l → f x ≤ (l.map f).sum
  | y :: l, x, h => by
    simp only [List.map_cons, List.sum_cons]
    rcases List.mem_cons.1 h with rfl | h
    · omega
    · have := mem_sum f l x h; omega
theorem tsz_kid {d : Nat} {v x : V} (h : x ∈ kids v) : tsz d x ≤ tsz (d + 1) v := by
  simp only [tsz]
  rcases List.mem_append.1 h with h | h
  · have := mem_sum (tsz d) v.list x h; omega
  · obtain ⟨kv, hk, rfl⟩ := List.mem_map.1 h
    have := mem_sum (fun kv : ByteArray × V => tsz d kv.2) v.fields kv hk
    omega
theorem tsz_list {d : Nat} {v : V} : v.list.length + 1 ≤ tsz (d + 1) v := by
  simp only [tsz]
  have := sum_ge (tsz d) v.list (fun x _ => tsz_pos d x)
  omega
theorem nar_small : ∀ (d : Nat) (a b : V), tsz d a ≤ 200 → tsz d b ≤ 200 → Nar d a b
  | 0, _, _, _, _ => trivial
  | d + 1, a, b, ha, hb => by
    have h1 := tsz_list (d := d) (v := a)
    have h2 := tsz_list (d := d) (v := b)
    refine ⟨by omega, by omega, Nat.le_trans (Nat.mul_le_mul (show a.list.length ≤ 200 by omega) (show b.list.length ≤ 200 by omega)) (by decide), fun x hx y hy => nar_small d x y ?_ ?_⟩
    · have := tsz_kid (d := d) hx; omega
    · have := tsz_kid (d := d) hy; omega
theorem chs_of {wb w : World} {L : List (Nat × Obj)} {R : List Row} {v : Value} {n : Nat} {S : List Ch} {rs : List (List Value)} {X : List Value} (cx : Cxr wb w L (⟨35, 29, v, n, X⟩ :: R)) (hn : n = S.length) (hX : X = rs.flatten) (hc : Rws (chA (F w L (⟨35, 29, v, n, X⟩ :: R)) w) S rs) : Chs w v S := by
  have row : w.ownsRow wb.heap.size 35 29 v n X := cx.head
  subst hX
  subst hn
  rcases row.2 with ⟨rfl, h0⟩ | ⟨g, cap, cur, rfl, hb, hg, hle, _, hcs, htake⟩
  · have : S = [] := List.eq_nil_of_length_eq_zero h0
    subst this
    exact ⟨0, 0, .inl ⟨rfl, rfl⟩, fun i c h => by simp at h⟩
  · have hrow : RowAt w g 0 rs.flatten := by
      intro j x hj
      rw [cell_of_row w g (0 + j) cur _ _ hg]
      rw [← htake] at hj
      rw [List.getElem?_take] at hj
      split at hj
      · simpa using hj
      · cases hj
    refine ⟨g, 0, .inr ⟨_, cap, rfl, hle, fun _ => ⟨rfl, (Array.getElem?_eq_some_iff.1 hg).1⟩⟩, fun i c hi => ?_⟩
    obtain ⟨r, h1, h2⟩ := Rws.rowAt chA.len hc hrow hi
    exact ⟨r, h1, h2.chg F.lt⟩
theorem chs_nil {w : World} : Chs w (.slice none 0 0) [] := ⟨0, 0, .inl ⟨rfl, rfl⟩, fun i c h => by simp at h⟩
theorem rep0 {w : World} {v : V} {r : List Value} (h : Val w v r) : RepV (F w [] []) w v r := RepV.mono (fun b hb => ⟨hb, by simp, by simp⟩) (fun _ _ => rfl) _ _ h
/-- what Make gives -/
def MkB (B : List Ch) : List Ch := if 4096 < B.length then [] else B
def MkE (B : List Ch) : Int := if 4096 < B.length then 10 else 0
theorem sho_few {B S : List Ch} (h : Sho 0 B S) (hs : S.length ≤ 4096) : S = B := by
  rcases h.2 with h | h
  · exact h
  · omega
theorem sho_many {B S : List Ch} (h : Sho 0 B S) (hs : 4096 < S.length) : 4096 < B.length := Nat.lt_of_lt_of_le hs h.1
end Go.Dk
end
section
namespace Go.Proofs.Ytmkihcdcgkdilaa
open Go Go.Dk Go.RowKit
set_option linter.unusedSimpArgs false
set_option linter.unusedVariables false
attribute [local irreducible] Go.wpList Go.Code.wp Go.bodyPost Go.wpStill Go.wpQuiet
section
variable (a : Option Addr) (n c : Nat) (k : Int) (s t : Sc) (bs ls fs bs2 ls2 fs2 : Value) (w : World)
theorem bd35r2 : (Instr.build 35 ([(0, .int .i64 3), (1, .slice a n c), (2, .int .i64 k), (3, .agg (vrow s bs ls fs).toArray)] : List (Nat × Value)).toArray).run Try.prog w = .ok (.agg (.int .i64 3 :: .slice a n c :: .int .i64 k :: (vrow s bs ls fs ++ vrow (zk 0) (.slice none 0 0) (.slice none 0 0) (.slice none 0 0))).toArray) w := by
  unfold vrow zk
  go_simp
  rfl
theorem bd35a2 : (Instr.build 35 ([(0, .int .i64 2), (1, .slice a n c), (2, .int .i64 k), (4, .agg (vrow s bs ls fs).toArray)] : List (Nat × Value)).toArray).run Try.prog w = .ok (.agg (.int .i64 2 :: .slice a n c :: .int .i64 k :: (vrow (zk 0) (.slice none 0 0) (.slice none 0 0) (.slice none 0 0) ++ vrow s bs ls fs)).toArray) w := by
  unfold vrow zk
  go_simp
  rfl
theorem bd35r : (Instr.build 35 ([(0, .int .i64 3), (1, .slice a n c), (3, .agg (vrow s bs ls fs).toArray)] : List (Nat × Value)).toArray).run Try.prog w = .ok (.agg (.int .i64 3 :: .slice a n c :: .int .i64 0 :: (vrow s bs ls fs ++ vrow (zk 0) (.slice none 0 0) (.slice none 0 0) (.slice none 0 0))).toArray) w := by
  unfold vrow zk
  go_simp
  rfl
theorem bd35a : (Instr.build 35 ([(0, .int .i64 2), (1, .slice a n c), (4, .agg (vrow s bs ls fs).toArray)] : List (Nat × Value)).toArray).run Try.prog w = .ok (.agg (.int .i64 2 :: .slice a n c :: .int .i64 0 :: (vrow (zk 0) (.slice none 0 0) (.slice none 0 0) (.slice none 0 0) ++ vrow s bs ls fs)).toArray) w := by
  unfold vrow zk
  go_simp
  rfl
theorem bd35c : (Instr.build 35 ([(0, .int .i64 1), (1, .slice a n c), (3, .agg (vrow s bs ls fs).toArray), (4, .agg (vrow t bs2 ls2 fs2).toArray)] : List (Nat × Value)).toArray).run Try.prog w = .ok (.agg (.int .i64 1 :: .slice a n c :: .int .i64 0 :: (vrow s bs ls fs ++ vrow t bs2 ls2 fs2)).toArray) w := by
  unfold vrow
  go_simp
end

def C66 (E : V → V → Bool) (d : Nat) : Prop := ∀ (wb : World) (L : List (Nat × Obj)) (R : List Row) (p : List Stp) (ps : Value) (a b : V) (ra rb : List Value) (w0 : World), Cxr wb w0 L R → PthA (F w0 L R) w0 ps p → RepV (F w0 L R) w0 a ra → RepV (F w0 L R) w0 b rb → okd d a → okd d b → Fine a → Fine b → Nar d a b → p.length + d ≤ 100 → d ≤ 48 → (btw E d p a b).length ≤ 1048576 → Ret Try.prog 66 [ps, .agg ra.toArray, .agg rb.toArray] w0 (BtR wb w0 L R (btw E d p a b))

set_option maxRecDepth 10000 in
set_option maxHeartbeats 6400000 in
theorem c98 (E : V → V → Bool) (d : Nat) (ih : C66 E d) (wb : World) (L : List (Nat × Obj)) (R : List Row) (p : List Stp) (ps : Value) (a b : V) (ra rb : List Value) (w0 : World) : Cxr wb w0 L R → PthA (F w0 L R) w0 ps p → RepV (F w0 L R) w0 a ra → RepV (F w0 L R) w0 b rb → okd (d + 1) a → okd (d + 1) b → Fine a → Fine b → Nar (d + 1) a b → p.length + (d + 1) ≤ 100 → (d + 1) ≤ 48 → ((kepC (btw E d) p b.fields a.fields ++ remC p b.fields a.fields 0 ++ addC p a.fields b.fields (nkep b.fields a.fields))).length ≤ 1048576 → Ret Try.prog 98 [ps, .agg ra.toArray, .agg rb.toArray] w0 (BtR wb w0 L R (kepC (btw E d) p b.fields a.fields ++ remC p b.fields a.fields 0 ++ addC p a.fields b.fields (nkep b.fields a.fields))) := by
  intro cx hpp hva hvb hoa hob hfa1 hfb1 hnar hpd hd48 hnb
  have hO1 := id (RepV.open hva)
  obtain ⟨abs, als, afs, rfl, _, _, haf0⟩ := hO1
  have hO2 := id (RepV.open hvb)
  obtain ⟨bbs, bls, bfs, rfl, _, _, hbf0⟩ := hO2
  obtain ⟨fb, fo, hfsl, hfreps⟩ := haf0
  have hO3 := hfsl.form
  obtain ⟨fa, fc, rfl, hfa⟩ := hO3
  obtain ⟨gb, go, hgsl, hgreps⟩ := hbf0
  have hO4 := hgsl.form
  obtain ⟨ga, gc, rfl, hga⟩ := hO4
  have hafl := hfa1.self.2.2.2.2
  have hbfl := hfb1.self.2.2.2.2
  rw [List.length_append, List.length_append] at hnb
  refine ret_enter Try.func98 rfl Try.ntmps98 rfl ?_
  skip
  refine wp_seq ?_
  refine wp_region_lit ?_
  refine s_box cx rfl rfl rfl rfl rfl ?_; intro b4 w cx hb4 hw4
  refine s_box cx rfl rfl rfl rfl rfl ?_; intro b5 w cx hb5 hw5
  refine s_val rfl rfl (v_assign rfl rfl) ?_
  refine wpList_nil ?_
  refine wp_seq ?_
  refine wp_region_lit ?_
  have hz : Fz w0 L R w ((b5, .cells (vrow b.sc bbs bls (.slice ga b.fields.length gc)).toArray 33) :: (b4, .cells (vrow a.sc abs als (.slice fa a.fields.length fc)).toArray 33) :: L) R := (Fz.new hb4 hw4).trans (Fz.new hb5 hw5)
  replace hz := hz.trans (Fz.nilRow 35 29)
  replace cx := cx.nilRow 35 29
  refine s_val rfl rfl (v_assign rfl rfl) ?_
  refine wpList_nil ?_
  refine wp_seq ?_
  refine wp_seq ?_
  refine wp_region_lit ?_
  refine s_val rfl rfl (v_assign rfl rfl) ?_
  refine wpList_nil ?_
  refine wp_block ?_
  refine w_loop (fun k f w1 => ∃ (i : Nat) (v : Value) (rs : List (List Value)), k + i = a.fields.length ∧ f 0 = ps ∧ f 4 = .pointer (some ⟨b4, 0, none⟩) ∧ f 5 = .pointer (some ⟨b5, 0, none⟩) ∧ f 7 = v ∧ f 8 = .int .i64 (i : Nat) ∧ LpC wb w0 L R ((b5, .cells (vrow b.sc bbs bls (.slice ga b.fields.length gc)).toArray 33) :: (b4, .cells (vrow a.sc abs als (.slice fa a.fields.length fc)).toArray 33) :: L) R 0 [] (kepC (btw E d) p b.fields (a.fields.take i)) v rs w1) (a.fields.length) ?_ ?_
  · skip
    exact ⟨0, .slice none 0 0, [], by omega, rfl, rfl, rfl, rfl, rfl, (LpC.zero cx hz).cast (by simp [kepC])⟩
  intro gk3 f w hJ
  obtain ⟨i, v, rs, hki, hs0, hs4, hs5, hs7, hs8, cx, hz, hcf⟩ := hJ
  refine wp_seq ?_
  refine wp_seq ?_
  refine wp_region_lit ?_
  refine s_val rfl rfl (v_move rfl hs8) ?_
  refine s_val rfl rfl (v_fa fa33_7 rfl hs4) ?_
  refine s_val rfl rfl (v_load1 rfl rfl Try.underlying31 rfl (cx.cell 1 rfl rfl)) ?_
  refine s_val rfl rfl (v_lenSlice rfl rfl Try.underlying31) ?_
  refine s_val rfl rfl (v_cmp rfl rfl rfl rfl) ?_
  refine wpList_nil ?_
  refine c_split rfl (fun hc25 => ?_) (fun hc25 => ?_)
  · skip
    try simp only [Bool.and_eq_true, Bool.or_eq_true, Bool.and_eq_false_iff, Bool.or_eq_false_iff, Bool.not_eq_true', Bool.not_eq_false', decide_eq_true_eq, decide_eq_false_iff_not, beq_iff_eq, beq_eq_false_iff_ne, bne_iff_ne, bne_eq_false_iff_eq, ne_eq, Classical.not_not] at hc25
    have hil : i < a.fields.length := by omega
    have hO5 := hfa (by omega)
    obtain rfl := hO5
    have hFfb := hfsl.inA (by omega)
    have hO6 := fld_at hz hfreps hil hFfb
    obtain ⟨r, hr, hrv⟩ := hO6
    have hO7 := hrv.open
    obtain ⟨ebs, els, efs, rfl, _⟩ := hO7
    have hkm : a.fields[i] ∈ a.fields := List.getElem_mem _
    have hh := hz.self
    have hb1 := kepC_le (btw E d) p b.fields a.fields (i + 1)
    rw [kepC_take (btw E d) p b.fields hil] at hb1
    refine wp_skip ?_
    refine wp_seq ?_
    refine wp_block ?_
    refine wp_seq ?_
    refine wp_region_lit ?_
    refine s_val rfl rfl (v_fa fa33_7 rfl hs4) ?_
    refine s_val rfl rfl (v_load1 rfl rfl Try.underlying31 rfl (cx.cell 1 rfl rfl)) ?_
    refine s_val rfl rfl (v_move rfl hs8) ?_
    refine s_val rfl rfl (v_ia Try.underlying31 sz77 rfl rfl rfl (by omega) (by omega)) ?_
    refine s_val rfl rfl (v_load rfl rfl Try.underlying77 rfl sz77 hr rfl) ?_
    refine s_alloc cx z77 rfl rfl rfl ?_; intro b9 w cx hb9 hw9
    refine s_storeAllG cx 0 rfl rfl rfl rfl rfl rfl sz77 rfl (rowF_one hrv) ?_; intro w cx hg9
    replace cx := cx.set0
    replace hh := hh.trans (Fz.newSet cx hb9 hw9 hg9)
    replace hrv := (Fz.newSet cx hb9 hw9 hg9).rep hrv
    refine wpList_nil ?_
    refine wp_seq ?_
    refine wp_region_lit ?_
    refine s_val rfl rfl (v_load rfl hs5 Try.underlying33 rfl sz33 (cx.row 1 rfl) (by first | rfl | exact hv.len)) ?_
    refine s_val rfl rfl (v_fa fa77_0 rfl rfl) ?_
    refine s_val rfl rfl (v_load1 rfl rfl Try.underlying9 rfl (cx.cell 0 rfl rfl)) ?_
    refine s_fn cx (c86 _ b _ a.fields[i].1 _ F.lt ((hz.trans hh).rep hvb) hbfl) Try.func86 rfl rfl rfl rfl rfl rfl ?_; intro q37 w cx hw37 hp37
    obtain ⟨lu, rfl, hlu⟩ := hp37
    replace hlu := RepV.mono (Fz.belC cx hw37).up (fun _ _ => rfl) _ _ hlu
    replace hh := hh.trans (Fz.belC cx hw37)
    replace hrv := (Fz.belC cx hw37).rep hrv
    have hlul := hlu.len
    refine s_val rfl rfl (v_move rfl rfl) ?_
    refine s_val rfl rfl (v_extract rfl rfl rfl) ?_
    refine s_val rfl rfl (v_extract rfl rfl rfl) ?_
    refine s_alloc cx z33 rfl rfl rfl ?_; intro b10 w cx hb10 hw10
    refine s_storeAllG cx 0 rfl rfl rfl rfl rfl rfl (by rw [hlul]; exact sz33) (by rw [hlul]; rfl) hlu.one ?_; intro w cx hg10
    replace cx := cx.set0
    replace hh := hh.trans (Fz.newSet cx hb10 hw10 hg10)
    replace hrv := (Fz.newSet cx hb10 hw10 hg10).rep hrv
    replace hlu := (Fz.newSet cx hb10 hw10 hg10).rep hlu
    refine s_val rfl rfl (v_assign rfl rfl) ?_
    refine wpList_nil ?_
    refine wp_seq ?_
    refine wp_region_lit ?_
    refine s_val rfl rfl (v_move rfl rfl) ?_
    refine wpList_nil ?_
    refine c_split rfl (fun hc40 => ?_) (fun hc40 => ?_)
    · skip
      skip
      have hO8 := Option.isSome_iff_exists.1 hc40
      obtain ⟨u, hu⟩ := hO8
      rw [hu] at hlu
      replace hlu : RepV _ w u lu := hlu
      rw [hu, List.length_append] at hb1
      dsimp only at hb1
      refine w_ord cx (cx.pick2 1 0 rfl rfl rfl) mixed [(0, 41), (1, 42), (2, 43), (3, 44), (5, 46), (6, 47), (7, 48)] #[true, true, true, true, false, true, true, true, false, false, false] (by kernel_rfl) (by kernel_rfl) (by kernel_rfl) (by kernel_rfl) ?_
      refine pu_one rfl (wnt_none rfl) (fun w cx => v_move rfl hs7) ?_
      refine pu_one rfl (wnt_none rfl) (fun w cx => v_move rfl hs0) ?_
      refine pu_one rfl (wnt_none rfl) (fun w cx => v_fa fa77_0 rfl rfl) ?_
      refine pu_one rfl (wnt_none rfl) (fun w cx => v_load1 rfl rfl Try.underlying9 rfl (cx.cell 0 rfl rfl)) ?_
      refine pu_one rfl (wnt_none rfl) (fun w cx => v_fa fa77_1 rfl rfl) ?_
      refine pu_one rfl (wnt_none rfl) (fun w cx => v_load rfl rfl Try.underlying33 rfl sz33 ((cx.row 0 rfl).tail) rfl) ?_
      refine pu_one rfl (wnt_none rfl) (fun w cx => v_load rfl rfl Try.underlying33 rfl sz33 (cx.row 1 rfl) hlul) ?_
      refine pu_nil ?_; intro w cx hwD8
      replace hh := hh.trans (Fz.belC cx hwD8)
      replace hrv := (Fz.belC cx hwD8).rep hrv
      replace hlu := (Fz.belC cx hwD8).rep hlu
      refine x_one (i := 4) (by kernel_rfl) rfl ?_
      have cx45 := cx
      refine s_fn cx (c87 a.fields[i].1 _ p _ _ F.lt ((hz.trans hh).pth hpp) (by omega)) Try.func87 rfl rfl rfl rfl rfl rfl ?_; intro q45 w cx hw45 hp45
      replace hp45 := hp45.fr cx45 hw45.size
      replace hh := hh.trans (Fz.belC cx hw45)
      replace hrv := (Fz.belC cx hw45).rep hrv
      replace hlu := (Fz.belC cx hw45).rep hlu
      refine x_next ⟨.inl (cx.pick2 1 0 rfl rfl rfl), ?_⟩
      refine x_one (i := 8) (by kernel_rfl) rfl ?_
      refine s_callR rfl rfl (runs_fn Try.func66 rfl rfl rfl rfl) (ih wb _ _ (p ++ [keyS a.fields[i].1]) _ a.fields[i].2 u _ _ _ cx hp45 hrv hlu (hoa.2.2.2 _ hkm) (hob.2.2.2 _ (hasF_mem hu)) (hfa1.field hkm).2 (hfb1.field (hasF_mem hu)).2 (hnar.field hkm hu) (by rw [List.length_append, List.length_singleton]; omega) (by omega) (by omega)) ?_; intro q49 w hp49
      obtain ⟨rs2, cx, hz2, hcf2⟩ := hp49
      replace hh := (hh.trans hz2).trans Fz.swap
      replace cx := cx.swap
      replace hcf2 := Fz.swap.chs hcf2
      refine x_next ⟨.inl (cx.pick2 1 0 rfl rfl rfl), ?_⟩
      refine x_one (i := 9) (by kernel_rfl) rfl ?_
      have hrow2 := cx.row2
      refine s_appendS cx ei35 Try.underlying22 rfl rfl rfl rfl rfl (src_rowk hrow2) (by rw [List.nil_append, Nat.zero_add]; exact chs_flat hcf2) (by rw [List.nil_append]; exact chs_one hcf2) (by omega) ?_; intro v50 w cx hgr50 hnw50
      replace hh := (hh.trans (Fz.appC cx hgr50 hnw50)).trans (Fz.swap.trans Fz.tlR)
      replace hcf2 := (Fz.swap.trans Fz.tlR).chs ((Fz.appC cx hgr50 hnw50).chs hcf2)
      replace cx := cx.swap.tlR
      refine x_next ⟨.inr (by kernel_rfl), ?_⟩
      refine x_one (i := 10) (by kernel_rfl) rfl ?_
      refine s_val rfl rfl (v_assign rfl rfl) ?_
      refine x_next ⟨.inr (by kernel_rfl), ?_⟩
      refine x_done (by kernel_rfl) ?_
      refine wp_region_lit ?_
      refine s_val rfl rfl (v_move rfl hs8) ?_
      refine s_val rfl rfl (v_add rfl rfl rfl (by omega) (by omega)) ?_
      refine s_val rfl rfl (v_assign rfl rfl) ?_
      refine wpList_nil ?_
      refine ⟨gk3 - 1, _, by omega, rfl, i + 1, v50, rs ++ rs2, by omega, hs0, hs4, hs5, rfl, rfl, LpC.cast (LpC.of ?_ ?_ cx.tl.tl (hz.trans (hh.trans (Fz.tl.trans Fz.tl))) (Rws.append ((hh.trans (Fz.tl.trans Fz.tl)).chs hcf) ((Fz.tl.trans Fz.tl).chs hcf2))) (by rw [kepC_take _ _ _ hil, hu])⟩
      · rw [List.length_append]; omega
      · simp
    · skip
      skip
      have hu : hasF a.fields[i].1 b.fields = none := by
        cases hx : hasF a.fields[i].1 b.fields with
        | none => rfl
        | some u => rw [hx] at hc40; cases hc40
      refine wp_skip ?_
      refine wp_region_lit ?_
      refine s_val rfl rfl (v_move rfl hs8) ?_
      refine s_val rfl rfl (v_add rfl rfl rfl (by omega) (by omega)) ?_
      refine s_val rfl rfl (v_assign rfl rfl) ?_
      refine wpList_nil ?_
      refine ⟨gk3 - 1, _, by omega, rfl, i + 1, v, rs, by omega, hs0, hs4, hs5, hs7, rfl, LpC.cast (LpC.of rfl rfl cx.tl.tl (hz.trans (hh.trans (Fz.tl.trans Fz.tl))) ((hh.trans (Fz.tl.trans Fz.tl)).chs hcf)) (by rw [kepC_take _ _ _ hil, hu]; simp)⟩
  · skip
    try simp only [Bool.and_eq_true, Bool.or_eq_true, Bool.and_eq_false_iff, Bool.or_eq_false_iff, Bool.not_eq_true', Bool.not_eq_false', decide_eq_true_eq, decide_eq_false_iff_not, beq_iff_eq, beq_eq_false_iff_ne, bne_iff_ne, bne_eq_false_iff_eq, ne_eq, Classical.not_not] at hc25
    refine wp_exit ?_
    refine wp_seq ?_
    refine wp_region_lit ?_
    refine s_val rfl rfl (v_assign rfl rfl) ?_
    refine wpList_nil ?_
    refine wp_seq ?_
    refine wp_seq ?_
    refine wp_region_lit ?_
    refine s_val rfl rfl (v_assign rfl rfl) ?_
    refine wpList_nil ?_
    refine wp_block ?_
    have hia : i = a.fields.length := by omega
    subst hia
    rw [List.take_of_length_le (Nat.le_refl _)] at cx hz hcf
    refine w_loop (fun k f w1 => ∃ (i : Nat) (v : Value) (rs : List (List Value)), k + i = a.fields.length ∧ f 0 = ps ∧ f 4 = .pointer (some ⟨b4, 0, none⟩) ∧ f 5 = .pointer (some ⟨b5, 0, none⟩) ∧ f 7 = v ∧ f 12 = .int .i64 (nkep b.fields (a.fields.take i) : Nat) ∧ f 13 = .int .i64 (i : Nat) ∧ LpC wb w0 L R ((b5, .cells (vrow b.sc bbs bls (.slice ga b.fields.length gc)).toArray 33) :: (b4, .cells (vrow a.sc abs als (.slice fa a.fields.length fc)).toArray 33) :: L) R 0 [] (kepC (btw E d) p b.fields a.fields ++ remC p b.fields (a.fields.take i) 0) v rs w1) (a.fields.length) ?_ ?_
    · skip
      exact ⟨0, v, rs, by omega, hs0, hs4, hs5, hs7, rfl, rfl, LpC.cast (LpC.of rfl rfl cx hz hcf) (by simp [remC])⟩
    intro gk11 f w hJ
    obtain ⟨i, v, rs, hki, hs0, hs4, hs5, hs7, hs12, hs13, cx, hz, hcf⟩ := hJ
    refine wp_seq ?_
    refine wp_seq ?_
    refine wp_region_lit ?_
    refine s_val rfl rfl (v_move rfl hs13) ?_
    refine s_val rfl rfl (v_fa fa33_7 rfl hs4) ?_
    refine s_val rfl rfl (v_load1 rfl rfl Try.underlying31 rfl (cx.cell 1 rfl rfl)) ?_
    refine s_val rfl rfl (v_lenSlice rfl rfl Try.underlying31) ?_
    refine s_val rfl rfl (v_cmp rfl rfl rfl rfl) ?_
    refine wpList_nil ?_
    refine c_split rfl (fun hc55 => ?_) (fun hc55 => ?_)
    · skip
      try simp only [Bool.and_eq_true, Bool.or_eq_true, Bool.and_eq_false_iff, Bool.or_eq_false_iff, Bool.not_eq_true', Bool.not_eq_false', decide_eq_true_eq, decide_eq_false_iff_not, beq_iff_eq, beq_eq_false_iff_ne, bne_iff_ne, bne_eq_false_iff_eq, ne_eq, Classical.not_not] at hc55
      have hil : i < a.fields.length := by omega
      have hO9 := hfa (by omega)
      obtain rfl := hO9
      have hFfb := hfsl.inA (by omega)
      have hO10 := fld_at hz hfreps hil hFfb
      obtain ⟨r, hr, hrv⟩ := hO10
      have hO11 := hrv.open
      obtain ⟨ebs, els, efs, rfl, _⟩ := hO11
      have hkm : a.fields[i] ∈ a.fields := List.getElem_mem _
      have hh := hz.self
      have hb1 := remC_le p b.fields a.fields (i + 1)
      rw [remC_take p b.fields hil] at hb1
      have hnk := nkep_take b.fields hil
      have hnl := nkep_le b.fields (a.fields.take i)
      rw [List.length_take] at hnl
      refine wp_skip ?_
      refine wp_seq ?_
      refine wp_block ?_
      refine wp_seq ?_
      refine wp_region_lit ?_
      refine s_val rfl rfl (v_fa fa33_7 rfl hs4) ?_
      refine s_val rfl rfl (v_load1 rfl rfl Try.underlying31 rfl (cx.cell 1 rfl rfl)) ?_
      refine s_val rfl rfl (v_move rfl hs13) ?_
      refine s_val rfl rfl (v_ia Try.underlying31 sz77 rfl rfl rfl (by omega) (by omega)) ?_
      refine s_val rfl rfl (v_load rfl rfl Try.underlying77 rfl sz77 hr rfl) ?_
      refine s_alloc cx z77 rfl rfl rfl ?_; intro b14 w cx hb14 hw14
      refine s_storeAllG cx 0 rfl rfl rfl rfl rfl rfl sz77 rfl (rowF_one hrv) ?_; intro w cx hg14
      replace cx := cx.set0
      replace hh := hh.trans (Fz.newSet cx hb14 hw14 hg14)
      replace hrv := (Fz.newSet cx hb14 hw14 hg14).rep hrv
      refine wpList_nil ?_
      refine wp_seq ?_
      refine wp_seq ?_
      refine wp_region_lit ?_
      refine s_val rfl rfl (v_load rfl hs5 Try.underlying33 rfl sz33 (cx.row 1 rfl) (by first | rfl | exact hv.len)) ?_
      refine s_val rfl rfl (v_fa fa77_0 rfl rfl) ?_
      refine s_val rfl rfl (v_load1 rfl rfl Try.underlying9 rfl (cx.cell 0 rfl rfl)) ?_
      refine s_fn cx (c86 _ b _ a.fields[i].1 _ F.lt ((hz.trans hh).rep hvb) hbfl) Try.func86 rfl rfl rfl rfl rfl rfl ?_; intro q67 w cx hw67 hp67
      obtain ⟨lu, rfl, hlu⟩ := hp67
      replace hlu := RepV.mono (Fz.belC cx hw67).up (fun _ _ => rfl) _ _ hlu
      replace hh := hh.trans (Fz.belC cx hw67)
      replace hrv := (Fz.belC cx hw67).rep hrv
      have hlul := hlu.len
      refine s_val rfl rfl (v_move rfl rfl) ?_
      refine s_val rfl rfl (v_extract rfl rfl rfl) ?_
      refine s_val rfl rfl (v_extract rfl rfl rfl) ?_
      refine s_alloc cx z33 rfl rfl rfl ?_; intro b15 w cx hb15 hw15
      refine s_storeAllG cx 0 rfl rfl rfl rfl rfl rfl (by rw [hlul]; exact sz33) (by rw [hlul]; rfl) hlu.one ?_; intro w cx hg15
      replace cx := cx.set0
      replace hh := hh.trans (Fz.newSet cx hb15 hw15 hg15)
      replace hrv := (Fz.newSet cx hb15 hw15 hg15).rep hrv
      replace hlu := (Fz.newSet cx hb15 hw15 hg15).rep hlu
      refine s_val rfl rfl (v_assign rfl rfl) ?_
      refine wpList_nil ?_
      refine wp_seq ?_
      refine wp_region_lit ?_
      refine s_val rfl rfl (v_move rfl rfl) ?_
      refine wpList_nil ?_
      refine c_split rfl (fun hc70 => ?_) (fun hc70 => ?_)
      · skip
        skip
        rw [if_pos hc70] at hb1 hnk
        refine wp_seq ?_
        refine wp_region_lit ?_
        refine s_val rfl rfl (v_move rfl hs12) ?_
        refine s_val rfl rfl (v_add rfl rfl rfl (by omega) (by omega)) ?_
        refine s_val rfl rfl (v_assign rfl rfl) ?_
        refine wpList_nil ?_
        refine wp_exit ?_
        refine wp_region_lit ?_
        refine s_val rfl rfl (v_move rfl hs13) ?_
        refine s_val rfl rfl (v_add rfl rfl rfl (by omega) (by omega)) ?_
        refine s_val rfl rfl (v_assign rfl rfl) ?_
        refine wpList_nil ?_
        refine ⟨gk11 - 1, _, by omega, rfl, i + 1, v, rs, by omega, hs0, hs4, hs5, hs7, (by rw [hnk]; rfl), rfl, LpC.cast (LpC.of rfl rfl cx.tl.tl (hz.trans (hh.trans (Fz.tl.trans Fz.tl))) ((hh.trans (Fz.tl.trans Fz.tl)).chs hcf)) (by rw [remC_take _ _ hil, if_pos hc70, List.append_nil])⟩
      · skip
        skip
        rw [if_neg (by rw [hc70]; exact Bool.false_ne_true), List.length_append, List.length_singleton] at hb1
        rw [if_neg (by rw [hc70]; exact Bool.false_ne_true)] at hnk
        refine wp_skip ?_
        refine w_ord cx (cx.pick1 1 rfl) mixed [(0, 73), (1, 74), (2, 75), (3, 76), (5, 78), (6, 79), (7, 80)] #[true, true, true, true, false, true, true, true, false, false, false, false] (by kernel_rfl) (by kernel_rfl) (by kernel_rfl) (by kernel_rfl) ?_
        refine pu_one rfl (wnt_none rfl) (fun w cx => v_move rfl hs7) ?_
        refine pu_one rfl (wnt_none rfl) (fun w cx => v_move rfl hs0) ?_
        refine pu_one rfl (wnt_none rfl) (fun w cx => v_fa fa77_0 rfl rfl) ?_
        refine pu_one rfl (wnt_none rfl) (fun w cx => v_load1 rfl rfl Try.underlying9 rfl (cx.cell 0 rfl rfl)) ?_
        refine pu_one rfl (wnt_none rfl) (fun w cx => v_move rfl hs12) ?_
        refine pu_one rfl (wnt_none rfl) (fun w cx => v_fa fa77_1 rfl rfl) ?_
        refine pu_one rfl (wnt_none rfl) (fun w cx => v_load rfl rfl Try.underlying33 rfl sz33 ((cx.row 0 rfl).tail) rfl) ?_
        refine pu_nil ?_; intro w cx hwD17
        replace hh := hh.trans (Fz.belC cx hwD17)
        replace hrv := (Fz.belC cx hwD17).rep hrv
        refine x_one (i := 4) (by kernel_rfl) rfl ?_
        have cx77 := cx
        refine s_fn cx (c87 a.fields[i].1 _ p _ _ F.lt ((hz.trans hh).pth hpp) (by omega)) Try.func87 rfl rfl rfl rfl rfl rfl ?_; intro q77 w cx hw77 hp77
        replace hp77 := hp77.fr cx77 hw77.size
        replace hh := hh.trans (Fz.belC cx hw77)
        replace hrv := (Fz.belC cx hw77).rep hrv
        refine x_next ⟨.inl (cx.pick1 1 rfl), ?_⟩
        refine x_one (i := 8) (by kernel_rfl) rfl ?_
        have hO12 := hp77.sl
        obtain ⟨pa, pc, rfl⟩ := hO12
        refine s_val rfl rfl (v_build (bd35r2 _ _ _ _ _ _ _ _) rfl rfl) ?_
        refine x_next ⟨.inl (cx.pick1 1 rfl), ?_⟩
        refine x_one (i := 9) (by kernel_rfl) rfl ?_
        refine s_bsl1 cx Try.underlying22 sz35 z35 rfl rfl rfl rfl rfl rfl rfl rfl ?_; intro b82 w cx hb82 hw82
        have hr82 : RowAt w b82 0 (.int .i64 3 :: .slice pa (p ++ [keyS a.fields[i].1]).length pc :: .int .i64 (nkep b.fields (a.fields.take i) : Nat) :: (vrow a.fields[i].2.sc ebs els efs ++ vrow (zk 0) (.slice none 0 0) (.slice none 0 0) (.slice none 0 0))) := cx.row 0 rfl
        replace cx := cx.tl
        replace hh := hh.trans (Fz.belC cx hw82)
        replace hrv := (Fz.belC cx hw82).rep hrv
        replace hp77 := (Fz.belC cx hw82).pth hp77
        refine x_next ⟨.inl (cx.pick1 1 rfl), ?_⟩
        refine x_one (i := 10) (by kernel_rfl) rfl ?_
        have hcn : chA (F w _ _) w (⟨3, p ++ [keyS a.fields[i].1], (nkep b.fields (a.fields.take i) : Nat), a.fields[i].2, nulV⟩ : Ch) (.int .i64 3 :: .slice pa (p ++ [keyS a.fields[i].1]).length pc :: .int .i64 (nkep b.fields (a.fields.take i) : Nat) :: (vrow a.fields[i].2.sc ebs els efs ++ vrow (zk 0) (.slice none 0 0) (.slice none 0 0) (.slice none 0 0))) := ⟨_, _, _, rfl, hp77, hrv, rep_nul⟩
        refine s_appendG (m := 1) cx ei35 Try.underlying22 rfl rfl rfl rfl rfl hr82 rfl (chA.one _ _ hcn) (by simp only [List.length_append]; omega) ?_; intro v83 w cx hgr83 hnw83
        replace hh := hh.trans (Fz.appC cx hgr83 hnw83)
        replace hcn := (Fz.appC cx hgr83 hnw83).ch1 hcn
        refine x_next ⟨.inr (by kernel_rfl), ?_⟩
        refine x_one (i := 11) (by kernel_rfl) rfl ?_
        refine s_val rfl rfl (v_assign rfl rfl) ?_
        refine x_next ⟨.inr (by kernel_rfl), ?_⟩
        refine x_done (by kernel_rfl) ?_
        refine wp_region_lit ?_
        refine s_val rfl rfl (v_move rfl hs13) ?_
        refine s_val rfl rfl (v_add rfl rfl rfl (by omega) (by omega)) ?_
        refine s_val rfl rfl (v_assign rfl rfl) ?_
        refine wpList_nil ?_
        refine ⟨gk11 - 1, _, by omega, rfl, i + 1, v83, rs ++ [_], by omega, hs0, hs4, hs5, rfl, (by rw [hnk]; exact hs12), rfl, LpC.cast (S := (kepC (btw E d) p b.fields a.fields ++ remC p b.fields (a.fields.take i) 0) ++ [⟨3, p ++ [keyS a.fields[i].1], (nkep b.fields (a.fields.take i) : Nat), a.fields[i].2, nulV⟩]) (LpC.of ?_ ?_ cx.tl.tl (hz.trans (hh.trans (Fz.tl.trans Fz.tl))) (Rws.append ((hh.trans (Fz.tl.trans Fz.tl)).chs hcf) ⟨(Fz.tl.trans Fz.tl).ch1 hcn, trivial⟩)) (by rw [remC_take _ _ hil, if_neg (by rw [hc70]; exact Bool.false_ne_true), List.append_assoc])⟩
        · simp only [List.length_append, List.length_singleton]; omega
        · simp
    · skip
      try simp only [Bool.and_eq_true, Bool.or_eq_true, Bool.and_eq_false_iff, Bool.or_eq_false_iff, Bool.not_eq_true', Bool.not_eq_false', decide_eq_true_eq, decide_eq_false_iff_not, beq_iff_eq, beq_eq_false_iff_ne, bne_iff_ne, bne_eq_false_iff_eq, ne_eq, Classical.not_not] at hc55
      refine wp_exit ?_
      refine wp_seq ?_
      refine wp_seq ?_
      refine wp_region_lit ?_
      refine s_val rfl rfl (v_assign rfl rfl) ?_
      refine wpList_nil ?_
      refine wp_block ?_
      have hia : i = a.fields.length := by omega
      subst hia
      rw [List.take_of_length_le (Nat.le_refl _)] at cx hz hcf hs12
      refine w_loop (fun k f w1 => ∃ (i : Nat) (v : Value) (rs : List (List Value)), k + i = b.fields.length ∧ f 0 = ps ∧ f 4 = .pointer (some ⟨b4, 0, none⟩) ∧ f 5 = .pointer (some ⟨b5, 0, none⟩) ∧ f 7 = v ∧ f 12 = .int .i64 ((nkep b.fields a.fields + (i - nkep a.fields (b.fields.take i)) : Nat) : Int) ∧ f 17 = .int .i64 (i : Nat) ∧ LpC wb w0 L R ((b5, .cells (vrow b.sc bbs bls (.slice ga b.fields.length gc)).toArray 33) :: (b4, .cells (vrow a.sc abs als (.slice fa a.fields.length fc)).toArray 33) :: L) R 0 [] (kepC (btw E d) p b.fields a.fields ++ remC p b.fields a.fields 0 ++ addC p a.fields (b.fields.take i) (nkep b.fields a.fields)) v rs w1) (b.fields.length) ?_ ?_
      · skip
        exact ⟨0, v, rs, by omega, hs0, hs4, hs5, hs7, (Eq.trans hs12 (by simp)), rfl, LpC.cast (LpC.of rfl rfl cx hz hcf) (by simp [addC])⟩
      intro gk19 f w hJ
      obtain ⟨i, v, rs, hki, hs0, hs4, hs5, hs7, hs12, hs17, cx, hz, hcf⟩ := hJ
      refine wp_seq ?_
      refine wp_seq ?_
      refine wp_region_lit ?_
      refine s_val rfl rfl (v_move rfl hs17) ?_
      refine s_val rfl rfl (v_fa fa33_7 rfl hs5) ?_
      refine s_val rfl rfl (v_load1 rfl rfl Try.underlying31 rfl (cx.cell 0 rfl rfl)) ?_
      refine s_val rfl rfl (v_lenSlice rfl rfl Try.underlying31) ?_
      refine s_val rfl rfl (v_cmp rfl rfl rfl rfl) ?_
      refine wpList_nil ?_
      refine c_split rfl (fun hc88 => ?_) (fun hc88 => ?_)
      · skip
        try simp only [Bool.and_eq_true, Bool.or_eq_true, Bool.and_eq_false_iff, Bool.or_eq_false_iff, Bool.not_eq_true', Bool.not_eq_false', decide_eq_true_eq, decide_eq_false_iff_not, beq_iff_eq, beq_eq_false_iff_ne, bne_iff_ne, bne_eq_false_iff_eq, ne_eq, Classical.not_not] at hc88
        have hil : i < b.fields.length := by omega
        have hO13 := hga (by omega)
        obtain rfl := hO13
        have hFfb := hgsl.inA (by omega)
        have hO14 := fld_at hz hgreps hil hFfb
        obtain ⟨r, hr, hrv⟩ := hO14
        have hO15 := hrv.open
        obtain ⟨ebs, els, efs, rfl, _⟩ := hO15
        have hkm : b.fields[i] ∈ b.fields := List.getElem_mem _
        have hh := hz.self
        have hb1 := addC_le p a.fields (nkep b.fields a.fields) b.fields (i + 1)
        rw [addC_take p a.fields _ hil] at hb1
        have hnk := nkep_take a.fields hil
        have hnl := nkep_le a.fields (b.fields.take i)
        rw [List.length_take] at hnl
        have hnl2 := nkep_le b.fields a.fields
        refine wp_skip ?_
        refine wp_seq ?_
        refine wp_block ?_
        refine wp_seq ?_
        refine wp_region_lit ?_
        refine s_val rfl rfl (v_fa fa33_7 rfl hs5) ?_
        refine s_val rfl rfl (v_load1 rfl rfl Try.underlying31 rfl (cx.cell 0 rfl rfl)) ?_
        refine s_val rfl rfl (v_move rfl hs17) ?_
        refine s_val rfl rfl (v_ia Try.underlying31 sz77 rfl rfl rfl (by omega) (by omega)) ?_
        refine s_val rfl rfl (v_load rfl rfl Try.underlying77 rfl sz77 hr rfl) ?_
        refine s_alloc cx z77 rfl rfl rfl ?_; intro b18 w cx hb18 hw18
        refine s_storeAllG cx 0 rfl rfl rfl rfl rfl rfl sz77 rfl (rowF_one hrv) ?_; intro w cx hg18
        replace cx := cx.set0
        replace hh := hh.trans (Fz.newSet cx hb18 hw18 hg18)
        replace hrv := (Fz.newSet cx hb18 hw18 hg18).rep hrv
        refine wpList_nil ?_
        refine wp_seq ?_
        refine wp_region_lit ?_
        refine s_val rfl rfl (v_load rfl hs4 Try.underlying33 rfl sz33 (cx.row 2 rfl) (by first | rfl | exact hv.len)) ?_
        refine s_val rfl rfl (v_fa fa77_0 rfl rfl) ?_
        refine s_val rfl rfl (v_load1 rfl rfl Try.underlying9 rfl (cx.cell 0 rfl rfl)) ?_
        refine s_fn cx (c86 _ a _ b.fields[i].1 _ F.lt ((hz.trans hh).rep hva) hafl) Try.func86 rfl rfl rfl rfl rfl rfl ?_; intro q100 w cx hw100 hp100
        obtain ⟨lu, rfl, hlu⟩ := hp100
        replace hlu := RepV.mono (Fz.belC cx hw100).up (fun _ _ => rfl) _ _ hlu
        replace hh := hh.trans (Fz.belC cx hw100)
        replace hrv := (Fz.belC cx hw100).rep hrv
        have hlul := hlu.len
        refine s_val rfl rfl (v_move rfl rfl) ?_
        refine s_val rfl rfl (v_extract rfl rfl rfl) ?_
        refine s_val rfl rfl (v_extract rfl rfl rfl) ?_
        refine s_alloc cx z33 rfl rfl rfl ?_; intro b19 w cx hb19 hw19
        refine s_storeAllG cx 0 rfl rfl rfl rfl rfl rfl (by rw [hlul]; exact sz33) (by rw [hlul]; rfl) hlu.one ?_; intro w cx hg19
        replace cx := cx.set0
        replace hh := hh.trans (Fz.newSet cx hb19 hw19 hg19)
        replace hrv := (Fz.newSet cx hb19 hw19 hg19).rep hrv
        replace hlu := (Fz.newSet cx hb19 hw19 hg19).rep hlu
        refine s_val rfl rfl (v_assign rfl rfl) ?_
        refine wpList_nil ?_
        refine wp_seq ?_
        refine wp_region_lit ?_
        refine s_val rfl rfl (v_move rfl rfl) ?_
        refine s_val rfl rfl (v_not rfl rfl) ?_
        refine wpList_nil ?_
        refine c_split rfl (fun hc104 => ?_) (fun hc104 => ?_)
        · skip
          skip
          have hc105 : (hasF b.fields[i].1 a.fields).isSome = false := by simpa using hc104
          rw [if_neg (by rw [hc105]; exact Bool.false_ne_true), List.length_append, List.length_singleton] at hb1
          rw [if_neg (by rw [hc105]; exact Bool.false_ne_true)] at hnk
          refine wp_seq ?_
          refine w_ord cx (cx.pick1 1 rfl) mixed [(0, 105), (1, 106), (2, 107), (3, 108), (5, 110), (6, 111), (7, 112)] #[true, true, true, true, false, true, true, true, false, false, false, false] (by kernel_rfl) (by kernel_rfl) (by kernel_rfl) (by kernel_rfl) ?_
          refine pu_one rfl (wnt_none rfl) (fun w cx => v_move rfl hs7) ?_
          refine pu_one rfl (wnt_none rfl) (fun w cx => v_move rfl hs0) ?_
          refine pu_one rfl (wnt_none rfl) (fun w cx => v_fa fa77_0 rfl rfl) ?_
          refine pu_one rfl (wnt_none rfl) (fun w cx => v_load1 rfl rfl Try.underlying9 rfl (cx.cell 0 rfl rfl)) ?_
          refine pu_one rfl (wnt_none rfl) (fun w cx => v_move rfl hs12) ?_
          refine pu_one rfl (wnt_none rfl) (fun w cx => v_fa fa77_1 rfl rfl) ?_
          refine pu_one rfl (wnt_none rfl) (fun w cx => v_load rfl rfl Try.underlying33 rfl sz33 ((cx.row 0 rfl).tail) rfl) ?_
          refine pu_nil ?_; intro w cx hwD24
          replace hh := hh.trans (Fz.belC cx hwD24)
          replace hrv := (Fz.belC cx hwD24).rep hrv
          refine x_one (i := 4) (by kernel_rfl) rfl ?_
          have cx109 := cx
          refine s_fn cx (c87 b.fields[i].1 _ p _ _ F.lt ((hz.trans hh).pth hpp) (by omega)) Try.func87 rfl rfl rfl rfl rfl rfl ?_; intro q109 w cx hw109 hp109
          replace hp109 := hp109.fr cx109 hw109.size
          replace hh := hh.trans (Fz.belC cx hw109)
          replace hrv := (Fz.belC cx hw109).rep hrv
          refine x_next ⟨.inl (cx.pick1 1 rfl), ?_⟩
          refine x_one (i := 8) (by kernel_rfl) rfl ?_
          have hO16 := hp109.sl
          obtain ⟨pa, pc, rfl⟩ := hO16
          refine s_val rfl rfl (v_build (bd35a2 _ _ _ _ _ _ _ _) rfl rfl) ?_
          refine x_next ⟨.inl (cx.pick1 1 rfl), ?_⟩
          refine x_one (i := 9) (by kernel_rfl) rfl ?_
          refine s_bsl1 cx Try.underlying22 sz35 z35 rfl rfl rfl rfl rfl rfl rfl rfl ?_; intro b114 w cx hb114 hw114
          have hr114 : RowAt w b114 0 (.int .i64 2 :: .slice pa (p ++ [keyS b.fields[i].1]).length pc :: .int .i64 ((nkep b.fields a.fields + (i - nkep a.fields (b.fields.take i)) : Nat) : Int) :: (vrow (zk 0) (.slice none 0 0) (.slice none 0 0) (.slice none 0 0) ++ vrow b.fields[i].2.sc ebs els efs)) := cx.row 0 rfl
          replace cx := cx.tl
          replace hh := hh.trans (Fz.belC cx hw114)
          replace hrv := (Fz.belC cx hw114).rep hrv
          replace hp109 := (Fz.belC cx hw114).pth hp109
          refine x_next ⟨.inl (cx.pick1 1 rfl), ?_⟩
          refine x_one (i := 10) (by kernel_rfl) rfl ?_
          have hcn : chA (F w _ _) w (⟨2, p ++ [keyS b.fields[i].1], ((nkep b.fields a.fields + (i - nkep a.fields (b.fields.take i)) : Nat) : Int), nulV, b.fields[i].2⟩ : Ch) (.int .i64 2 :: .slice pa (p ++ [keyS b.fields[i].1]).length pc :: .int .i64 ((nkep b.fields a.fields + (i - nkep a.fields (b.fields.take i)) : Nat) : Int) :: (vrow (zk 0) (.slice none 0 0) (.slice none 0 0) (.slice none 0 0) ++ vrow b.fields[i].2.sc ebs els efs)) := ⟨_, _, _, rfl, hp109, rep_nul, hrv⟩
          refine s_appendG (m := 1) cx ei35 Try.underlying22 rfl rfl rfl rfl rfl hr114 rfl (chA.one _ _ hcn) (by simp only [List.length_append]; omega) ?_; intro v115 w cx hgr115 hnw115
          replace hh := hh.trans (Fz.appC cx hgr115 hnw115)
          replace hcn := (Fz.appC cx hgr115 hnw115).ch1 hcn
          refine x_next ⟨.inr (by kernel_rfl), ?_⟩
          refine x_one (i := 11) (by kernel_rfl) rfl ?_
          refine s_val rfl rfl (v_assign rfl rfl) ?_
          refine x_next ⟨.inr (by kernel_rfl), ?_⟩
          refine x_done (by kernel_rfl) ?_
          refine wp_region_lit ?_
          refine s_val rfl rfl (v_move rfl hs12) ?_
          refine s_val rfl rfl (v_add rfl rfl rfl (by omega) (by omega)) ?_
          refine s_val rfl rfl (v_assign rfl rfl) ?_
          refine wpList_nil ?_
          refine wp_region_lit ?_
          refine s_val rfl rfl (v_move rfl hs17) ?_
          refine s_val rfl rfl (v_add rfl rfl rfl (by omega) (by omega)) ?_
          refine s_val rfl rfl (v_assign rfl rfl) ?_
          refine wpList_nil ?_
          refine ⟨gk19 - 1, _, by omega, rfl, i + 1, v115, rs ++ [_], by omega, hs0, hs4, hs5, rfl, (by rw [hnk]; show Value.int _ _ = _; congr 1; omega), rfl, LpC.cast (S := (kepC (btw E d) p b.fields a.fields ++ remC p b.fields a.fields 0 ++ addC p a.fields (b.fields.take i) (nkep b.fields a.fields)) ++ [⟨2, p ++ [keyS b.fields[i].1], ((nkep b.fields a.fields + (i - nkep a.fields (b.fields.take i)) : Nat) : Int), nulV, b.fields[i].2⟩]) (LpC.of ?_ ?_ cx.tl.tl (hz.trans (hh.trans (Fz.tl.trans Fz.tl))) (Rws.append ((hh.trans (Fz.tl.trans Fz.tl)).chs hcf) ⟨(Fz.tl.trans Fz.tl).ch1 hcn, trivial⟩)) (by rw [addC_take _ _ _ hil, if_neg (by rw [hc105]; exact Bool.false_ne_true), List.append_assoc])⟩
          · simp only [List.length_append, List.length_singleton]; omega
          · simp
        · skip
          skip
          have hc105 : (hasF b.fields[i].1 a.fields).isSome = true := by simpa using hc104
          rw [if_pos hc105] at hb1 hnk
          refine wp_skip ?_
          refine wp_region_lit ?_
          refine s_val rfl rfl (v_move rfl hs17) ?_
          refine s_val rfl rfl (v_add rfl rfl rfl (by omega) (by omega)) ?_
          refine s_val rfl rfl (v_assign rfl rfl) ?_
          refine wpList_nil ?_
          refine ⟨gk19 - 1, _, by omega, rfl, i + 1, v, rs, by omega, hs0, hs4, hs5, hs7, (by rw [hnk]; refine Eq.trans hs12 ?_; congr 1; omega), rfl, LpC.cast (LpC.of rfl rfl cx.tl.tl (hz.trans (hh.trans (Fz.tl.trans Fz.tl))) ((hh.trans (Fz.tl.trans Fz.tl)).chs hcf)) (by rw [addC_take _ _ _ hil, if_pos hc105, List.append_nil])⟩
      · skip
        try simp only [Bool.and_eq_true, Bool.or_eq_true, Bool.and_eq_false_iff, Bool.or_eq_false_iff, Bool.not_eq_true', Bool.not_eq_false', decide_eq_true_eq, decide_eq_false_iff_not, beq_iff_eq, beq_eq_false_iff_ne, bne_iff_ne, bne_eq_false_iff_eq, ne_eq, Classical.not_not] at hc88
        refine wp_exit ?_
        refine wp_seq ?_
        refine wp_region_lit ?_
        refine s_val rfl rfl (v_move rfl hs7) ?_
        refine s_val rfl rfl (v_assign rfl rfl) ?_
        refine wpList_nil ?_
        refine wp_ret ?_
        refine ret_tmp Try.results98 rfl ?_
        have hib : i = b.fields.length := by omega
        subst hib
        rw [List.take_of_length_le (Nat.le_refl _)] at cx hz hcf
        exact ⟨rs, (LpC.of rfl rfl cx hz hcf).drop 2⟩
end Go.Proofs.Ytmkihcdcgkdilaa
end
section
namespace Go.Proofs.Ytmkihcdcgkdilaa
open Go Go.Dk Go.RowKit
set_option linter.unusedSimpArgs false
set_option linter.unusedVariables false
attribute [local irreducible] Go.wpList Go.Code.wp Go.bodyPost Go.wpStill Go.wpQuiet
theorem common_few (E : V → V → Bool) (a b : List V) : (common E a b).length ≤ a.length := by
  have hPa := nPre_a E a b
  have hSa := nSuf_a E a b
  have hlA := midL_len hSa
  have hMl := sel_len E (midL a (nPre E a b) (nSuf E a b)) (midL b (nPre E a b) (nSuf E a b)) (midL a (nPre E a b) (nSuf E a b)).length 0 0
  rw [hlA] at hMl
  unfold common
  rw [List.length_append, List.length_append, List.length_map, diag_len, ends_len]
  unfold mids
  rw [hlA]
  omega
def listV (l : List V) : V := .mk (zk 6) [] l []

theorem qflat_len (l : List (Nat × Nat)) : (l.flatMap qrow).length = l.length * 2 := qrow_len l
def C99 (E : V → V → Bool) (d : Nat) : Prop := ∀ (wb : World) (L : List (Nat × Obj)) (R : List Row) (p : List Stp) (ps : Value) (a b : List V) (s1 s2 : Value) (w0 : World), Cxr wb w0 L R → PthA (F w0 L R) w0 ps p → RepL (F w0 L R) w0 s1 a → RepL (F w0 L R) w0 s2 b → (∀ x ∈ a, okd d x ∧ Fine x) → (∀ x ∈ b, okd d x ∧ Fine x) → a.length ≤ 6000 → b.length ≤ 6000 → a.length * b.length ≤ 40000 → (∀ x ∈ a, ∀ y ∈ b, Nar d x y) → p.length + (d + 1) ≤ 100 → d + 1 ≤ 48 → (lstC (btw E d) p a b (common E a b ++ [(a.length, b.length)]) 0 0).length ≤ 1048576 →
    Ret Try.prog 99 [ps, s1, s2] w0 (BtR wb w0 L R (lstC (btw E d) p a b (common E a b ++ [(a.length, b.length)]) 0 0))

set_option maxRecDepth 10000 in
set_option maxHeartbeats 6400000 in
theorem c99 (E : V → V → Bool) (hE : ∀ x y, E x y = true ↔ canon x = canon y) (d : Nat) (ih : C66 E d) : C99 E d := by
  intro wb L R p ps a b s1 s2 w0 cx hpp hla hlb hoa hob hna hnb hnm hnar hpd hd48 hnT
  have hO1 : ∃ PP, PP = (common E a b ++ [(a.length, b.length)]) := ⟨_, rfl⟩
  obtain ⟨PP, hPP⟩ := hO1
  have hinc := inc_common E a b
  rw [← hPP] at hnT hinc ⊢
  have hPlen := common_few E a b
  have hO2 := hla.sl
  obtain ⟨a1, c1, rfl⟩ := hO2
  have hO3 := hlb.sl
  obtain ⟨a2, c2, rfl⟩ := hO3
  refine ret_enter Try.func99 rfl Try.ntmps99 rfl ?_
  skip
  refine wp_seq ?_
  refine wp_region_lit ?_
  refine s_val rfl rfl (v_assign rfl rfl) ?_
  refine wpList_nil ?_
  refine wp_seq ?_
  refine wp_region_lit ?_
  refine s_val rfl rfl (v_move rfl rfl) ?_
  refine s_val rfl rfl (v_move rfl rfl) ?_
  refine s_fn cx (c26 E hE a b _ _ _ (RepL.mono F.lt (fun _ _ => rfl) hla) (RepL.mono F.lt (fun _ _ => rfl) hlb) (fun x hx => (hoa x hx).2) (fun x hx => (hob x hx).2) hna hnb hnm) Try.func26 rfl rfl rfl rfl rfl rfl ?_; intro q14 w cx2 hw14 hp14
  have hzB : Fz w0 L R w L _ := Fz.adopt hw14 hp14
  have hO4 := own_row hp14
  obtain ⟨ap, cp, rfl, hrp⟩ := hO4
  replace cx := cx.adopt hw14 hp14
  clear cx2
  refine s_val rfl rfl (v_assign rfl rfl) ?_
  refine wpList_nil ?_
  refine wp_seq ?_
  refine wp_region_lit ?_
  refine s_val rfl rfl (v_move rfl rfl) ?_
  refine s_val rfl rfl (v_move rfl rfl) ?_
  refine s_val rfl rfl (v_lenSlice rfl rfl Try.underlying30) ?_
  refine s_val rfl rfl (v_move rfl rfl) ?_
  refine s_val rfl rfl (v_lenSlice rfl rfl Try.underlying30) ?_
  refine s_val rfl rfl (v_build (bd43 _ _) rfl rfl) ?_
  refine s_bsl1 cx Try.underlying41 sz43 z43 rfl rfl rfl rfl rfl rfl rfl rfl ?_; intro b21 w cx hb21 hw21
  have hr21 : RowAt w b21 0 [.int .i64 (a.length : Int), .int .i64 (b.length : Int)] := cx.row 0 rfl
  replace cx := cx.tl
  replace hzB := hzB.trans (Fz.belC cx hw21)
  refine s_appendG (m := 1) cx ei43 Try.underlying41 rfl rfl rfl rfl rfl hr21 rfl rfl (by omega) ?_; intro v22 w cx hgr22 hnw22
  replace hzB := hzB.trans (Fz.appC cx hgr22 hnw22)
  have hO5 := cx.ownRow
  obtain ⟨a22, c22, rfl, h22⟩ := hO5
  have hO6 := h22 (by omega)
  obtain ⟨g, rfl, hrowB⟩ := hO6
  have hFg := F.row1 cx g rfl
  replace hzB := hzB.trans Fz.tlR
  replace cx := cx.tlR
  have hPl : PP.length = (common E a b).length + 1 := by rw [hPP, List.length_append, List.length_singleton]
  have hPf : (common E a b).flatMap qrow ++ [.int .i64 (a.length : Int), .int .i64 (b.length : Int)] = PP.flatMap qrow := by rw [hPP, qflat_snoc]; rfl
  rw [hPf] at hrowB
  rw [← hPl]
  replace hpp := hzB.pth hpp
  replace hla := hzB.repL hla
  replace hlb := hzB.repL hlb
  have hO7 := id hla
  obtain ⟨b1, o1, hsl1, hreps1⟩ := hO7
  have hO8 := hsl1.form
  obtain ⟨a1', c1', e1, hfa1⟩ := hO8
  cases e1
  have hO9 := id hlb
  obtain ⟨b2, o2, hsl2, hreps2⟩ := hO9
  have hO10 := hsl2.form
  obtain ⟨a2', c2', e2, hfa2⟩ := hO10
  cases e2
  have hO11 : ∃ y, y = w := ⟨_, rfl⟩
  obtain ⟨wB, hwB⟩ := hO11
  subst hwB
  refine s_val rfl rfl (v_assign rfl rfl) ?_
  refine wpList_nil ?_
  refine wp_seq ?_
  refine wp_region_lit ?_
  have hz := (Fz.refl wB L R).trans (Fz.nilRow 35 29)
  replace cx := cx.nilRow 35 29
  refine s_val rfl rfl (v_assign rfl rfl) ?_
  refine wpList_nil ?_
  refine wp_seq ?_
  refine wp_region_lit ?_
  refine s_val rfl rfl (v_assign rfl rfl) ?_
  refine s_val rfl rfl (v_assign rfl rfl) ?_
  refine wpList_nil ?_
  refine wp_seq ?_
  refine wp_seq ?_
  refine wp_region_lit ?_
  refine s_val rfl rfl (v_assign rfl rfl) ?_
  refine wpList_nil ?_
  refine wp_block ?_
  refine w_loop (fun k f w1 => ∃ (t : Nat) (v : Value) (rs : List (List Value)), k + t = PP.length ∧ f 0 = ps ∧ f 1 = .slice a1 a.length c1 ∧ f 2 = .slice a2 b.length c2 ∧ f 7 = .slice (some ⟨g, 0, none⟩) PP.length c22 ∧ f 8 = v ∧ f 9 = .int .i64 ((aft (PP.take t) 0 0).1 : Nat) ∧ f 10 = .int .i64 ((aft (PP.take t) 0 0).2 : Nat) ∧ f 11 = .int .i64 (t : Nat) ∧ LpC wb wB L R L R 0 [] (lstC (btw E d) p a b (PP.take t) 0 0) v rs w1) (PP.length) ?_ ?_
  · skip
    exact ⟨0, .slice none 0 0, [], by omega, rfl, rfl, rfl, rfl, rfl, rfl, rfl, rfl, (LpC.zero cx hz).cast (by simp [lstC])⟩
  intro gk6 f w hJ
  obtain ⟨t, v, rs, hkt, hs0, hs1, hs2, hs7, hs8, hs9, hs10, hs11, cx, hz, hcf⟩ := hJ
  refine wp_seq ?_
  refine wp_seq ?_
  refine wp_region_lit ?_
  refine s_val rfl rfl (v_move rfl hs11) ?_
  refine s_val rfl rfl (v_move rfl hs7) ?_
  refine s_val rfl rfl (v_lenSlice rfl rfl Try.underlying41) ?_
  refine s_val rfl rfl (v_cmp rfl rfl rfl rfl) ?_
  refine wpList_nil ?_
  refine c_split rfl (fun hc26 => ?_) (fun hc26 => ?_)
  · skip
    try simp only [Bool.and_eq_true, Bool.or_eq_true, Bool.and_eq_false_iff, Bool.or_eq_false_iff, Bool.not_eq_true', Bool.not_eq_false', decide_eq_true_eq, decide_eq_false_iff_not, beq_iff_eq, beq_eq_false_iff_ne, bne_iff_ne, bne_eq_false_iff_eq, ne_eq, Classical.not_not] at hc26
    have htl : t < PP.length := by omega
    have hO12 : ∃ i j, aft (PP.take t) 0 0 = (i, j) := ⟨_, _, rfl⟩
    obtain ⟨i, j, hij⟩ := hO12
    have hO13 : ∃ x y, PP[t] = (x, y) := ⟨_, _, rfl⟩
    obtain ⟨x, y, hxy⟩ := hO13
    have hin := inc_aft PP 0 0 t hinc htl
    have hpt : PP[t]? = some (x, y) := by rw [List.getElem?_eq_getElem htl, hxy]
    rw [hij, hxy] at hin
    rw [hij] at hs9 hs10
    obtain ⟨hix, hjy, hxa, hyb⟩ := hin
    dsimp only at hix hjy hxa hyb hs9 hs10
    have hO14 : ∃ M, M = min (x - i) (y - j) := ⟨_, rfl⟩
    obtain ⟨M, hM⟩ := hO14
    have hbl := lstC_le (btw E d) p a b PP (t + 1)
    have hlt := lstC_take (btw E d) p a b htl
    rw [hij, hxy] at hlt
    dsimp only at hlt
    rw [gapC_M _ _ _ _ _ _ _ _ M hM] at hlt
    rw [hlt] at hbl
    simp only [List.length_append, gp2_len, gp3_len] at hbl
    refine wp_skip ?_
    refine wp_seq ?_
    refine wp_block ?_
    refine wp_seq ?_
    refine wp_block ?_
    refine w_loop (fun k f w1 => ∃ (s : Nat) (v : Value) (rs : List (List Value)), k + s = M ∧ f 0 = ps ∧ f 1 = .slice a1 a.length c1 ∧ f 2 = .slice a2 b.length c2 ∧ f 7 = .slice (some ⟨g, 0, none⟩) PP.length c22 ∧ f 8 = v ∧ f 9 = .int .i64 (i + s : Nat) ∧ f 10 = .int .i64 (j + s : Nat) ∧ f 11 = .int .i64 (t : Nat) ∧ LpC wb wB L R L R 0 [] ((lstC (btw E d) p a b (PP.take t) 0 0) ++ gp1 (btw E d) p a b i j s) v rs w1) (M) ?_ ?_
    · skip
      exact ⟨0, v, rs, by omega, hs0, hs1, hs2, hs7, hs8, hs9, hs10, hs11, LpC.cast (LpC.of rfl rfl cx hz hcf) (by rw [gp1_zero, List.append_nil])⟩
    intro gk8 f w hJ
    obtain ⟨s, v, rs, hks, hs0, hs1, hs2, hs7, hs8, hs9, hs10, hs11, cx, hz, hcf⟩ := hJ
    have hrg := hz.row hrowB hFg
    refine wp_seq ?_
    refine wp_seq ?_
    refine wp_region_lit ?_
    refine s_val rfl rfl (v_move rfl hs9) ?_
    refine s_val rfl rfl (v_move rfl hs7) ?_
    refine s_val rfl rfl (v_move rfl hs11) ?_
    refine s_val rfl rfl (v_ia Try.underlying41 sz43 rfl rfl rfl (by omega) (by omega)) ?_
    refine s_val rfl rfl (v_iaR (r := 0 + t * 2) Try.underlying43 sz3 rfl rfl rfl (by omega) (by omega) (by rw [Int.toNat_natCast]; rfl)) ?_
    refine s_val rfl rfl (v_load1 rfl rfl Try.underlying3 rfl (hrg (t * 2) (.int .i64 (x : Int)) (qflat_at hpt).1)) ?_
    refine s_val rfl rfl (v_cmp rfl rfl rfl rfl) ?_
    refine s_val rfl rfl (v_move rfl rfl) ?_
    refine s_gval rfl rfl rfl (by first | exact w_tt rfl | exact w_gt rfl) (fun hc => v_move rfl hs10) ?_
    refine s_gval rfl rfl rfl (by first | exact w_tt rfl | exact w_gt rfl) (fun hc => v_move rfl hs7) ?_
    refine s_gval rfl rfl rfl (by first | exact w_tt rfl | exact w_gt rfl) (fun hc => v_move rfl hs11) ?_
    refine s_gval rfl rfl rfl (by first | exact w_tt rfl | exact w_gt rfl) (fun hc => v_ia Try.underlying41 sz43 rfl (gve hc rfl) (gve hc rfl) (by omega) (by omega)) ?_
    refine s_gval rfl rfl rfl (by first | exact w_tt rfl | exact w_gt rfl) (fun hc => v_iaR (r := 0 + (t * 2 + 1)) Try.underlying43 sz3 rfl (gve hc rfl) rfl (by omega) (by omega) (by rw [Int.toNat_natCast]; rfl)) ?_
    refine s_gval rfl rfl rfl (by first | exact w_tt rfl | exact w_gt rfl) (fun hc => v_load1 rfl (gve hc rfl) Try.underlying3 rfl (hrg ((t * 2 + 1)) (.int .i64 (y : Int)) (qflat_at hpt).2)) ?_
    refine s_gval rfl rfl rfl (by first | exact w_tt rfl | exact w_gt rfl) (fun hc => v_cmp rfl (by first | exact gve hc rfl | exact gve (and_l hc) rfl | exact gve (and_l (and_l hc)) rfl | rfl) (by first | exact gve hc rfl | exact gve (and_l hc) rfl | exact gve (and_l (and_l hc)) rfl | rfl) rfl) ?_
    refine s_val rfl rfl (v_and rfl rfl rfl rfl) ?_
    refine wpList_nil ?_
    refine c_split rfl (fun hc44 => ?_) (fun hc44 => ?_)
    · skip
      try simp only [Bool.and_eq_true, Bool.or_eq_true, Bool.and_eq_false_iff, Bool.or_eq_false_iff, Bool.not_eq_true', Bool.not_eq_false', decide_eq_true_eq, decide_eq_false_iff_not, beq_iff_eq, beq_eq_false_iff_ne, bne_iff_ne, bne_eq_false_iff_eq, ne_eq, Classical.not_not] at hc44
      have hsM : s < M := by omega
      have hg1 := gp1_le (btw E d) p a b i j (show s + 1 ≤ M by omega)
      have hO15 := hfa1 (by omega)
      obtain rfl := hO15
      have hF1 := hsl1.inA (by omega)
      have hO16 := lst_at hz hreps1 (i := i + s) (by omega) hF1
      obtain ⟨r1, hr1, hv1⟩ := hO16
      replace hF1 := hz.up _ hF1
      have hge1 := getD_at (l := a) (i := i + s) (by omega)
      have hO17 := hfa2 (by omega)
      obtain rfl := hO17
      have hF2 := hsl2.inA (by omega)
      have hO18 := lst_at hz hreps2 (i := j + s) (by omega) hF2
      obtain ⟨r2, hr2, hv2⟩ := hO18
      replace hF2 := hz.up _ hF2
      have hge2 := getD_at (l := b) (i := j + s) (by omega)
      rw [gp1_succ, hge1, hge2, List.length_append] at hg1
      have hh := hz.self
      refine wp_skip ?_
      refine wp_block ?_
      refine wp_seq ?_
      refine w_ordK cx (Ctx.sub0 cx) hh.kp mixed [(0, 45), (1, 46), (2, 47), (4, 49), (5, 50), (6, 51), (7, 52), (8, 53), (9, 54), (10, 55), (11, 56)] #[true, true, true, false, true, true, true, true, true, true, true, true, false, false, false] (by kernel_rfl) (by kernel_rfl) (by kernel_rfl) (by kernel_rfl) ?_
      refine pu_one rfl (wnt_none rfl) (fun w hS => by obtain ⟨cx, hkS⟩ := hS; exact v_move rfl hs8) ?_
      refine pu_one rfl (wnt_none rfl) (fun w hS => by obtain ⟨cx, hkS⟩ := hS; exact v_move rfl hs0) ?_
      refine pu_one rfl (wnt_none rfl) (fun w hS => by obtain ⟨cx, hkS⟩ := hS; exact v_move rfl hs10) ?_
      refine pu_one rfl (wnt_none rfl) (fun w hS => by obtain ⟨cx, hkS⟩ := hS; exact v_move rfl hs1) ?_
      refine pu_one rfl (wnt_none rfl) (fun w hS => by obtain ⟨cx, hkS⟩ := hS; exact v_move rfl hs9) ?_
      refine pu_one rfl (wnt_none rfl) (fun w hS => by obtain ⟨cx, hkS⟩ := hS; exact v_ia Try.underlying30 sz33 rfl rfl rfl (by omega) (by omega)) ?_
      refine pu_one rfl (wnt_none rfl) (fun w hS => by obtain ⟨cx, hkS⟩ := hS; exact v_load rfl rfl Try.underlying33 rfl sz33 (hr1.keep (hkS _ hF1)) hv1.len) ?_
      refine pu_one rfl (wnt_none rfl) (fun w hS => by obtain ⟨cx, hkS⟩ := hS; exact v_move rfl hs2) ?_
      refine pu_one rfl (wnt_none rfl) (fun w hS => by obtain ⟨cx, hkS⟩ := hS; exact v_move rfl hs10) ?_
      refine pu_one rfl (wnt_none rfl) (fun w hS => by obtain ⟨cx, hkS⟩ := hS; exact v_ia Try.underlying30 sz33 rfl rfl rfl (by omega) (by omega)) ?_
      refine pu_one rfl (wnt_none rfl) (fun w hS => by obtain ⟨cx, hkS⟩ := hS; exact v_load rfl rfl Try.underlying33 rfl sz33 (hr2.keep (hkS _ hF2)) hv2.len) ?_
      refine pu_nil ?_; intro w cx hwD9 hkS9
      replace hh := hh.trans (Fz.belC cx hwD9)
      replace hv1 := (Fz.belC cx hwD9).rep hv1
      replace hv2 := (Fz.belC cx hwD9).rep hv2
      refine x_one (i := 3) (by kernel_rfl) rfl ?_
      have cx48 := cx
      refine s_fn cx (c85 (j + s) _ p _ _ F.lt ((hz.trans hh).pth hpp) (by omega)) Try.func85 rfl rfl rfl rfl rfl rfl ?_; intro q48 w cx hw48 hp48
      replace hp48 := hp48.fr cx48 hw48.size
      replace hh := hh.trans (Fz.belC cx hw48)
      replace hv1 := (Fz.belC cx hw48).rep hv1
      replace hv2 := (Fz.belC cx hw48).rep hv2
      refine x_next ⟨.inl ⟨Ctx.sub0 cx, hh.kp⟩, ?_⟩
      refine x_one (i := 12) (by kernel_rfl) rfl ?_
      refine s_callR rfl rfl (runs_fn Try.func66 rfl rfl rfl rfl) (ih wb _ _ (p ++ [idxS (j + s)]) _ a[i + s] b[j + s] _ _ _ cx hp48 hv1 hv2 (hoa _ (List.getElem_mem _)).1 (hob _ (List.getElem_mem _)).1 (hoa _ (List.getElem_mem _)).2 (hob _ (List.getElem_mem _)).2 (hnar _ (List.getElem_mem _) _ (List.getElem_mem _)) (by rw [List.length_append, List.length_singleton]; omega) (by omega) (by omega)) ?_; intro q57 w hp57
      obtain ⟨rs2, cx, hz2, hcf2⟩ := hp57
      replace hh := (hh.trans hz2).trans Fz.swap
      replace cx := cx.swap
      replace hcf2 := Fz.swap.chs hcf2
      refine x_next ⟨.inl ⟨Ctx.sub0 cx, hh.kp⟩, ?_⟩
      refine x_one (i := 13) (by kernel_rfl) rfl ?_
      have hrow2 := cx.row2
      refine s_appendS cx ei35 Try.underlying22 rfl rfl rfl rfl rfl (src_rowk hrow2) (by rw [List.nil_append, Nat.zero_add]; exact chs_flat hcf2) (by rw [List.nil_append]; exact chs_one hcf2) (by simp only [List.length_append]; omega) ?_; intro v58 w cx hgr58 hnw58
      replace hh := (hh.trans (Fz.appC cx hgr58 hnw58)).trans (Fz.swap.trans Fz.tlR)
      replace hcf2 := (Fz.swap.trans Fz.tlR).chs ((Fz.appC cx hgr58 hnw58).chs hcf2)
      replace cx := cx.swap.tlR
      refine x_next ⟨.inr (by kernel_rfl), ?_⟩
      refine x_one (i := 14) (by kernel_rfl) rfl ?_
      refine s_val rfl rfl (v_assign rfl rfl) ?_
      refine x_next ⟨.inr (by kernel_rfl), ?_⟩
      refine x_done (by kernel_rfl) ?_
      refine wp_seq ?_
      refine wp_region_lit ?_
      refine s_val rfl rfl (v_move rfl hs9) ?_
      refine s_val rfl rfl (v_addQ rfl rfl rfl (r := ((i + s + 1 : Nat) : Int)) (by omega) (by omega) (by omega)) ?_
      refine s_val rfl rfl (v_assign rfl rfl) ?_
      refine wpList_nil ?_
      refine wp_region_lit ?_
      refine s_val rfl rfl (v_move rfl hs10) ?_
      refine s_val rfl rfl (v_addQ rfl rfl rfl (r := ((j + s + 1 : Nat) : Int)) (by omega) (by omega) (by omega)) ?_
      refine s_val rfl rfl (v_assign rfl rfl) ?_
      refine wpList_nil ?_
      refine ⟨gk8 - 1, _, by omega, rfl, s + 1, v58, rs ++ rs2, by omega, hs0, hs1, hs2, hs7, rfl, rfl, rfl, hs11, LpC.cast (LpC.of ?_ ?_ cx (hz.trans hh) (Rws.append (hh.chs hcf) hcf2)) (by rw [gp1_succ, hge1, hge2, List.append_assoc])⟩
      · simp only [List.length_append]; omega
      · simp
    · skip
      try simp only [Bool.and_eq_true, Bool.or_eq_true, Bool.and_eq_false_iff, Bool.or_eq_false_iff, Bool.not_eq_true', Bool.not_eq_false', decide_eq_true_eq, decide_eq_false_iff_not, beq_iff_eq, beq_eq_false_iff_ne, bne_iff_ne, bne_eq_false_iff_eq, ne_eq, Classical.not_not] at hc44
      refine wp_exit ?_
      refine wp_seq ?_
      refine wp_block ?_
      have hsM : M = s := by omega
      subst hsM
      refine w_loop (fun k f w1 => ∃ (s : Nat) (v : Value) (rs : List (List Value)), k + s = x - i - (y - j) ∧ f 0 = ps ∧ f 1 = .slice a1 a.length c1 ∧ f 2 = .slice a2 b.length c2 ∧ f 7 = .slice (some ⟨g, 0, none⟩) PP.length c22 ∧ f 8 = v ∧ f 9 = .int .i64 (i + M + s : Nat) ∧ f 10 = .int .i64 (j + M : Nat) ∧ f 11 = .int .i64 (t : Nat) ∧ LpC wb wB L R L R 0 [] ((lstC (btw E d) p a b (PP.take t) 0 0) ++ gp1 (btw E d) p a b i j M ++ gp2 p a i j M s) v rs w1) (x - i - (y - j)) ?_ ?_
      · skip
        exact ⟨0, v, rs, by omega, hs0, hs1, hs2, hs7, hs8, hs9, hs10, hs11, LpC.cast (LpC.of rfl rfl cx hz hcf) (by rw [gp2_zero, List.append_nil])⟩
      intro gk12 f w hJ
      obtain ⟨s, v, rs, hks, hs0, hs1, hs2, hs7, hs8, hs9, hs10, hs11, cx, hz, hcf⟩ := hJ
      have hrg := hz.row hrowB hFg
      refine wp_seq ?_
      refine wp_seq ?_
      refine wp_region_lit ?_
      refine s_val rfl rfl (v_move rfl hs9) ?_
      refine s_val rfl rfl (v_move rfl hs7) ?_
      refine s_val rfl rfl (v_move rfl hs11) ?_
      refine s_val rfl rfl (v_ia Try.underlying41 sz43 rfl rfl rfl (by omega) (by omega)) ?_
      refine s_val rfl rfl (v_iaR (r := 0 + t * 2) Try.underlying43 sz3 rfl rfl rfl (by omega) (by omega) (by rw [Int.toNat_natCast]; rfl)) ?_
      refine s_val rfl rfl (v_load1 rfl rfl Try.underlying3 rfl (hrg (t * 2) (.int .i64 (x : Int)) (qflat_at hpt).1)) ?_
      refine s_val rfl rfl (v_cmp rfl rfl rfl rfl) ?_
      refine wpList_nil ?_
      refine c_split rfl (fun hc69 => ?_) (fun hc69 => ?_)
      · skip
        try simp only [Bool.and_eq_true, Bool.or_eq_true, Bool.and_eq_false_iff, Bool.or_eq_false_iff, Bool.not_eq_true', Bool.not_eq_false', decide_eq_true_eq, decide_eq_false_iff_not, beq_iff_eq, beq_eq_false_iff_ne, bne_iff_ne, bne_eq_false_iff_eq, ne_eq, Classical.not_not] at hc69
        have hsM : s < x - i - (y - j) := by omega
        have hO19 := hfa1 (by omega)
        obtain rfl := hO19
        have hF1 := hsl1.inA (by omega)
        have hO20 := lst_at hz hreps1 (i := i + M + s) (by omega) hF1
        obtain ⟨r1, hr1, hv1⟩ := hO20
        replace hF1 := hz.up _ hF1
        have hge1 := getD_at (l := a) (i := i + M + s) (by omega)
        have hO21 := hv1.open
        obtain ⟨ebs, els, efs, rfl, _⟩ := hO21
        have hh := hz.self
        refine wp_skip ?_
        refine wp_block ?_
        refine wp_seq ?_
        refine w_ordK cx (Ctx.sub0 cx) hh.kp mixed [(0, 70), (1, 71), (2, 72), (4, 74), (5, 75), (6, 76), (7, 77)] #[true, true, true, false, true, true, true, true, false, false, false, false] (by kernel_rfl) (by kernel_rfl) (by kernel_rfl) (by kernel_rfl) ?_
        refine pu_one rfl (wnt_none rfl) (fun w hS => by obtain ⟨cx, hkS⟩ := hS; exact v_move rfl hs8) ?_
        refine pu_one rfl (wnt_none rfl) (fun w hS => by obtain ⟨cx, hkS⟩ := hS; exact v_move rfl hs0) ?_
        refine pu_one rfl (wnt_none rfl) (fun w hS => by obtain ⟨cx, hkS⟩ := hS; exact v_move rfl hs10) ?_
        refine pu_one rfl (wnt_none rfl) (fun w hS => by obtain ⟨cx, hkS⟩ := hS; exact v_move rfl hs1) ?_
        refine pu_one rfl (wnt_none rfl) (fun w hS => by obtain ⟨cx, hkS⟩ := hS; exact v_move rfl hs9) ?_
        refine pu_one rfl (wnt_none rfl) (fun w hS => by obtain ⟨cx, hkS⟩ := hS; exact v_ia Try.underlying30 sz33 rfl rfl rfl (by omega) (by omega)) ?_
        refine pu_one rfl (wnt_none rfl) (fun w hS => by obtain ⟨cx, hkS⟩ := hS; exact v_load rfl rfl Try.underlying33 rfl sz33 (hr1.keep (hkS _ hF1)) hv1.len) ?_
        refine pu_nil ?_; intro w cx hwD13 hkS13
        replace hh := hh.trans (Fz.belC cx hwD13)
        replace hv1 := (Fz.belC cx hwD13).rep hv1
        refine x_one (i := 3) (by kernel_rfl) rfl ?_
        have cx73 := cx
        refine s_fn cx (c85 (j + M) _ p _ _ F.lt ((hz.trans hh).pth hpp) (by omega)) Try.func85 rfl rfl rfl rfl rfl rfl ?_; intro q73 w cx hw73 hp73
        replace hp73 := hp73.fr cx73 hw73.size
        replace hh := hh.trans (Fz.belC cx hw73)
        replace hv1 := (Fz.belC cx hw73).rep hv1
        refine x_next ⟨.inl ⟨Ctx.sub0 cx, hh.kp⟩, ?_⟩
        refine x_one (i := 8) (by kernel_rfl) rfl ?_
        have hO22 := hp73.sl
        obtain ⟨pa, pc, rfl⟩ := hO22
        refine s_val rfl rfl (v_build (bd35r _ _ _ _ _ _ _) rfl rfl) ?_
        refine x_next ⟨.inl ⟨Ctx.sub0 cx, hh.kp⟩, ?_⟩
        refine x_one (i := 9) (by kernel_rfl) rfl ?_
        refine s_bsl1 cx Try.underlying22 sz35 z35 rfl rfl rfl rfl rfl rfl rfl rfl ?_; intro b79 w cx hb79 hw79
        have hr79 : RowAt w b79 0 (.int .i64 3 :: .slice pa (p ++ [idxS (j + M)]).length pc :: .int .i64 0 :: (vrow a[i + M + s].sc ebs els efs ++ vrow (zk 0) (.slice none 0 0) (.slice none 0 0) (.slice none 0 0))) := cx.row 0 rfl
        replace cx := cx.tl
        replace hh := hh.trans (Fz.belC cx hw79)
        replace hv1 := (Fz.belC cx hw79).rep hv1
        replace hp73 := (Fz.belC cx hw79).pth hp73
        refine x_next ⟨.inl ⟨Ctx.sub0 cx, hh.kp⟩, ?_⟩
        refine x_one (i := 10) (by kernel_rfl) rfl ?_
        have hcn : chA (F w _ _) w (⟨3, p ++ [idxS (j + M)], 0, a[i + M + s], nulV⟩ : Ch) (.int .i64 3 :: .slice pa (p ++ [idxS (j + M)]).length pc :: .int .i64 0 :: (vrow a[i + M + s].sc ebs els efs ++ vrow (zk 0) (.slice none 0 0) (.slice none 0 0) (.slice none 0 0))) := ⟨_, _, _, rfl, hp73, hv1, rep_nul⟩
        refine s_appendG (m := 1) cx ei35 Try.underlying22 rfl rfl rfl rfl rfl hr79 rfl (chA.one _ _ hcn) (by simp only [List.length_append, gp2_len]; omega) ?_; intro v80 w cx hgr80 hnw80
        replace hh := hh.trans (Fz.appC cx hgr80 hnw80)
        replace hcn := (Fz.appC cx hgr80 hnw80).ch1 hcn
        refine x_next ⟨.inr (by kernel_rfl), ?_⟩
        refine x_one (i := 11) (by kernel_rfl) rfl ?_
        refine s_val rfl rfl (v_assign rfl rfl) ?_
        refine x_next ⟨.inr (by kernel_rfl), ?_⟩
        refine x_done (by kernel_rfl) ?_
        refine wp_region_lit ?_
        refine s_val rfl rfl (v_move rfl hs9) ?_
        refine s_val rfl rfl (v_addQ rfl rfl rfl (r := ((i + M + s + 1 : Nat) : Int)) (by omega) (by omega) (by omega)) ?_
        refine s_val rfl rfl (v_assign rfl rfl) ?_
        refine wpList_nil ?_
        refine ⟨gk12 - 1, _, by omega, rfl, s + 1, v80, rs ++ [_], by omega, hs0, hs1, hs2, hs7, rfl, rfl, hs10, hs11, LpC.cast (S := ((lstC (btw E d) p a b (PP.take t) 0 0) ++ gp1 (btw E d) p a b i j M ++ gp2 p a i j M s) ++ [⟨3, p ++ [idxS (j + M)], 0, a[i + M + s], nulV⟩]) (LpC.of ?_ ?_ cx (hz.trans hh) (Rws.append (hh.chs hcf) ⟨hcn, trivial⟩)) (by rw [gp2_succ, hge1, List.append_assoc])⟩
        · simp only [List.length_append, List.length_singleton]; omega
        · simp
      · skip
        try simp only [Bool.and_eq_true, Bool.or_eq_true, Bool.and_eq_false_iff, Bool.or_eq_false_iff, Bool.not_eq_true', Bool.not_eq_false', decide_eq_true_eq, decide_eq_false_iff_not, beq_iff_eq, beq_eq_false_iff_ne, bne_iff_ne, bne_eq_false_iff_eq, ne_eq, Classical.not_not] at hc69
        refine wp_exit ?_
        refine wp_seq ?_
        refine wp_block ?_
        have hsM : s = x - i - (y - j) := by omega
        subst hsM
        have hxe : i + M + (x - i - (y - j)) = x := by omega
        rw [hxe] at hs9
        refine w_loop (fun k f w1 => ∃ (s : Nat) (v : Value) (rs : List (List Value)), k + s = y - j - (x - i) ∧ f 0 = ps ∧ f 1 = .slice a1 a.length c1 ∧ f 2 = .slice a2 b.length c2 ∧ f 7 = .slice (some ⟨g, 0, none⟩) PP.length c22 ∧ f 8 = v ∧ f 9 = .int .i64 (x : Nat) ∧ f 10 = .int .i64 (j + M + s : Nat) ∧ f 11 = .int .i64 (t : Nat) ∧ LpC wb wB L R L R 0 [] ((lstC (btw E d) p a b (PP.take t) 0 0) ++ gp1 (btw E d) p a b i j M ++ gp2 p a i j M (x - i - (y - j)) ++ gp3 p b j M s) v rs w1) (y - j - (x - i)) ?_ ?_
        · skip
          exact ⟨0, v, rs, by omega, hs0, hs1, hs2, hs7, hs8, hs9, hs10, hs11, LpC.cast (LpC.of rfl rfl cx hz hcf) (by rw [gp3_zero, List.append_nil])⟩
        intro gk15 f w hJ
        obtain ⟨s, v, rs, hks, hs0, hs1, hs2, hs7, hs8, hs9, hs10, hs11, cx, hz, hcf⟩ := hJ
        have hrg := hz.row hrowB hFg
        refine wp_seq ?_
        refine wp_seq ?_
        refine wp_region_lit ?_
        refine s_val rfl rfl (v_move rfl hs10) ?_
        refine s_val rfl rfl (v_move rfl hs7) ?_
        refine s_val rfl rfl (v_move rfl hs11) ?_
        refine s_val rfl rfl (v_ia Try.underlying41 sz43 rfl rfl rfl (by omega) (by omega)) ?_
        refine s_val rfl rfl (v_iaR (r := 0 + (t * 2 + 1)) Try.underlying43 sz3 rfl rfl rfl (by omega) (by omega) (by rw [Int.toNat_natCast]; rfl)) ?_
        refine s_val rfl rfl (v_load1 rfl rfl Try.underlying3 rfl (hrg ((t * 2 + 1)) (.int .i64 (y : Int)) (qflat_at hpt).2)) ?_
        refine s_val rfl rfl (v_cmp rfl rfl rfl rfl) ?_
        refine wpList_nil ?_
        refine c_split rfl (fun hc89 => ?_) (fun hc89 => ?_)
        · skip
          try simp only [Bool.and_eq_true, Bool.or_eq_true, Bool.and_eq_false_iff, Bool.or_eq_false_iff, Bool.not_eq_true', Bool.not_eq_false', decide_eq_true_eq, decide_eq_false_iff_not, beq_iff_eq, beq_eq_false_iff_ne, bne_iff_ne, bne_eq_false_iff_eq, ne_eq, Classical.not_not] at hc89
          have hsM : s < y - j - (x - i) := by omega
          have hO23 := hfa2 (by omega)
          obtain rfl := hO23
          have hF2 := hsl2.inA (by omega)
          have hO24 := lst_at hz hreps2 (i := j + M + s) (by omega) hF2
          obtain ⟨r2, hr2, hv2⟩ := hO24
          replace hF2 := hz.up _ hF2
          have hge2 := getD_at (l := b) (i := j + M + s) (by omega)
          have hO25 := hv2.open
          obtain ⟨ebs, els, efs, rfl, _⟩ := hO25
          have hh := hz.self
          refine wp_skip ?_
          refine wp_block ?_
          refine wp_seq ?_
          refine w_ordK cx (Ctx.sub0 cx) hh.kp mixed [(0, 90), (1, 91), (2, 92), (4, 94), (5, 95), (6, 96), (7, 97)] #[true, true, true, false, true, true, true, true, false, false, false, false] (by kernel_rfl) (by kernel_rfl) (by kernel_rfl) (by kernel_rfl) ?_
          refine pu_one rfl (wnt_none rfl) (fun w hS => by obtain ⟨cx, hkS⟩ := hS; exact v_move rfl hs8) ?_
          refine pu_one rfl (wnt_none rfl) (fun w hS => by obtain ⟨cx, hkS⟩ := hS; exact v_move rfl hs0) ?_
          refine pu_one rfl (wnt_none rfl) (fun w hS => by obtain ⟨cx, hkS⟩ := hS; exact v_move rfl hs10) ?_
          refine pu_one rfl (wnt_none rfl) (fun w hS => by obtain ⟨cx, hkS⟩ := hS; exact v_move rfl hs2) ?_
          refine pu_one rfl (wnt_none rfl) (fun w hS => by obtain ⟨cx, hkS⟩ := hS; exact v_move rfl hs10) ?_
          refine pu_one rfl (wnt_none rfl) (fun w hS => by obtain ⟨cx, hkS⟩ := hS; exact v_ia Try.underlying30 sz33 rfl rfl rfl (by omega) (by omega)) ?_
          refine pu_one rfl (wnt_none rfl) (fun w hS => by obtain ⟨cx, hkS⟩ := hS; exact v_load rfl rfl Try.underlying33 rfl sz33 (hr2.keep (hkS _ hF2)) hv2.len) ?_
          refine pu_nil ?_; intro w cx hwD16 hkS16
          replace hh := hh.trans (Fz.belC cx hwD16)
          replace hv2 := (Fz.belC cx hwD16).rep hv2
          refine x_one (i := 3) (by kernel_rfl) rfl ?_
          have cx93 := cx
          refine s_fn cx (c85 (j + M + s) _ p _ _ F.lt ((hz.trans hh).pth hpp) (by omega)) Try.func85 rfl rfl rfl rfl rfl rfl ?_; intro q93 w cx hw93 hp93
          replace hp93 := hp93.fr cx93 hw93.size
          replace hh := hh.trans (Fz.belC cx hw93)
          replace hv2 := (Fz.belC cx hw93).rep hv2
          refine x_next ⟨.inl ⟨Ctx.sub0 cx, hh.kp⟩, ?_⟩
          refine x_one (i := 8) (by kernel_rfl) rfl ?_
          have hO26 := hp93.sl
          obtain ⟨pa, pc, rfl⟩ := hO26
          refine s_val rfl rfl (v_build (bd35a _ _ _ _ _ _ _) rfl rfl) ?_
          refine x_next ⟨.inl ⟨Ctx.sub0 cx, hh.kp⟩, ?_⟩
          refine x_one (i := 9) (by kernel_rfl) rfl ?_
          refine s_bsl1 cx Try.underlying22 sz35 z35 rfl rfl rfl rfl rfl rfl rfl rfl ?_; intro b99 w cx hb99 hw99
          have hr99 : RowAt w b99 0 (.int .i64 2 :: .slice pa (p ++ [idxS (j + M + s)]).length pc :: .int .i64 0 :: (vrow (zk 0) (.slice none 0 0) (.slice none 0 0) (.slice none 0 0) ++ vrow b[j + M + s].sc ebs els efs)) := cx.row 0 rfl
          replace cx := cx.tl
          replace hh := hh.trans (Fz.belC cx hw99)
          replace hv2 := (Fz.belC cx hw99).rep hv2
          replace hp93 := (Fz.belC cx hw99).pth hp93
          refine x_next ⟨.inl ⟨Ctx.sub0 cx, hh.kp⟩, ?_⟩
          refine x_one (i := 10) (by kernel_rfl) rfl ?_
          have hcn : chA (F w _ _) w (⟨2, p ++ [idxS (j + M + s)], 0, nulV, b[j + M + s]⟩ : Ch) (.int .i64 2 :: .slice pa (p ++ [idxS (j + M + s)]).length pc :: .int .i64 0 :: (vrow (zk 0) (.slice none 0 0) (.slice none 0 0) (.slice none 0 0) ++ vrow b[j + M + s].sc ebs els efs)) := ⟨_, _, _, rfl, hp93, rep_nul, hv2⟩
          refine s_appendG (m := 1) cx ei35 Try.underlying22 rfl rfl rfl rfl rfl hr99 rfl (chA.one _ _ hcn) (by simp only [List.length_append, gp2_len, gp3_len]; omega) ?_; intro v100 w cx hgr100 hnw100
          replace hh := hh.trans (Fz.appC cx hgr100 hnw100)
          replace hcn := (Fz.appC cx hgr100 hnw100).ch1 hcn
          refine x_next ⟨.inr (by kernel_rfl), ?_⟩
          refine x_one (i := 11) (by kernel_rfl) rfl ?_
          refine s_val rfl rfl (v_assign rfl rfl) ?_
          refine x_next ⟨.inr (by kernel_rfl), ?_⟩
          refine x_done (by kernel_rfl) ?_
          refine wp_region_lit ?_
          refine s_val rfl rfl (v_move rfl hs10) ?_
          refine s_val rfl rfl (v_addQ rfl rfl rfl (r := ((j + M + s + 1 : Nat) : Int)) (by omega) (by omega) (by omega)) ?_
          refine s_val rfl rfl (v_assign rfl rfl) ?_
          refine wpList_nil ?_
          refine ⟨gk15 - 1, _, by omega, rfl, s + 1, v100, rs ++ [_], by omega, hs0, hs1, hs2, hs7, rfl, hs9, rfl, hs11, LpC.cast (S := ((lstC (btw E d) p a b (PP.take t) 0 0) ++ gp1 (btw E d) p a b i j M ++ gp2 p a i j M (x - i - (y - j)) ++ gp3 p b j M s) ++ [⟨2, p ++ [idxS (j + M + s)], 0, nulV, b[j + M + s]⟩]) (LpC.of ?_ ?_ cx (hz.trans hh) (Rws.append (hh.chs hcf) ⟨hcn, trivial⟩)) (by rw [gp3_succ, hge2, List.append_assoc])⟩
          · simp only [List.length_append, List.length_singleton]; omega
          · simp
        · skip
          try simp only [Bool.and_eq_true, Bool.or_eq_true, Bool.and_eq_false_iff, Bool.or_eq_false_iff, Bool.not_eq_true', Bool.not_eq_false', decide_eq_true_eq, decide_eq_false_iff_not, beq_iff_eq, beq_eq_false_iff_ne, bne_iff_ne, bne_eq_false_iff_eq, ne_eq, Classical.not_not] at hc89
          refine wp_exit ?_
          refine wp_seq ?_
          refine wp_region_lit ?_
          refine s_val rfl rfl (v_move rfl hs9) ?_
          refine s_val rfl rfl (v_addQ rfl rfl rfl (r := ((x + 1 : Nat) : Int)) (by omega) (by omega) (by omega)) ?_
          refine s_val rfl rfl (v_assign rfl rfl) ?_
          refine wpList_nil ?_
          refine wp_region_lit ?_
          refine s_val rfl rfl (v_move rfl hs10) ?_
          refine s_val rfl rfl (v_addQ rfl rfl rfl (r := ((y + 1 : Nat) : Int)) (by omega) (by omega) (by omega)) ?_
          refine s_val rfl rfl (v_assign rfl rfl) ?_
          refine wpList_nil ?_
          refine wp_region_lit ?_
          refine s_val rfl rfl (v_move rfl hs11) ?_
          refine s_val rfl rfl (v_add rfl rfl rfl (by omega) (by omega)) ?_
          refine s_val rfl rfl (v_assign rfl rfl) ?_
          refine wpList_nil ?_
          refine ⟨gk6 - 1, _, by omega, rfl, t + 1, v, rs, by omega, hs0, hs1, hs2, hs7, hs8, by rw [aft_take htl, hxy]; rfl, by rw [aft_take htl, hxy]; rfl, rfl, LpC.cast (LpC.of rfl rfl cx hz hcf) ?_⟩
          rw [hlt, ← List.append_assoc, ← List.append_assoc, show s = y - j - (x - i) by omega]
  · skip
    try simp only [Bool.and_eq_true, Bool.or_eq_true, Bool.and_eq_false_iff, Bool.or_eq_false_iff, Bool.not_eq_true', Bool.not_eq_false', decide_eq_true_eq, decide_eq_false_iff_not, beq_iff_eq, beq_eq_false_iff_ne, bne_iff_ne, bne_eq_false_iff_eq, ne_eq, Classical.not_not] at hc26
    refine wp_exit ?_
    refine wp_seq ?_
    refine wp_region_lit ?_
    refine s_val rfl rfl (v_move rfl hs8) ?_
    refine s_val rfl rfl (v_assign rfl rfl) ?_
    refine wpList_nil ?_
    refine wp_ret ?_
    refine ret_tmp Try.results99 rfl ?_
    have htl : t = PP.length := by omega
    subst htl
    rw [List.take_of_length_le (Nat.le_refl _)] at cx hz hcf
    exact ⟨rs, LpC.of rfl rfl cx (hzB.trans hz) hcf⟩
end Go.Proofs.Ytmkihcdcgkdilaa
end
section
namespace Go.Proofs.Ytmkihcdcgkdilaa
open Go Go.Dk Go.RowKit
set_option linter.unusedSimpArgs false
set_option linter.unusedVariables false
attribute [local irreducible] Go.wpList Go.Code.wp Go.bodyPost Go.wpStill Go.wpQuiet
set_option maxRecDepth 10000 in
set_option maxHeartbeats 6400000 in
theorem c66 (E : V → V → Bool) (hE : ∀ x y, E x y = true ↔ canon x = canon y) : ∀ d, C66 E d := by
  intro d
  induction d with
  | zero => intro wb L R p ps a b ra rb w0 cx hpp hva hvb hoa; exact hoa.elim
  | succ d ih =>
  intro wb L R p ps a b ra rb w0 cx hpp hva hvb hoa hob hfa1 hfb1 hnar hpd hd48 hnb
  have hO1 := id (RepV.open hva)
  obtain ⟨abs, als, afs, rfl, _, hla, _⟩ := hO1
  have hO2 := id (RepV.open hvb)
  obtain ⟨bbs, bls, bfs, rfl, _, hlb, _⟩ := hO2
  have hO3 := hla.sl
  obtain ⟨la, lc, rfl⟩ := hO3
  have hO4 := hlb.sl
  obtain ⟨ma, mc, rfl⟩ := hO4
  have hO5 := hpp.sl
  obtain ⟨pa, pc, rfl⟩ := hO5
  refine ret_enter Try.func66 rfl Try.ntmps66 rfl ?_
  skip
  refine wp_seq ?_
  refine wp_region_lit ?_
  refine s_box cx rfl rfl rfl rfl rfl ?_; intro b4 w cx hb4 hw4
  refine s_box cx rfl rfl rfl rfl rfl ?_; intro b5 w cx hb5 hw5
  refine s_val rfl rfl (v_assign rfl rfl) ?_
  refine wpList_nil ?_
  refine wp_seq ?_
  refine wp_block ?_
  refine wp_seq ?_
  refine wp_region_lit ?_
  have hz : Fz w0 L R w ((b5, .cells (vrow b.sc bbs (.slice ma b.list.length mc) bfs).toArray 33) :: (b4, .cells (vrow a.sc abs (.slice la a.list.length lc) afs).toArray 33) :: L) R := (Fz.new hb4 hw4).trans (Fz.new hb5 hw5)
  refine s_val rfl rfl (v_load rfl rfl Try.underlying33 rfl sz33 (cx.row 1 rfl) rfl) ?_
  refine s_val rfl rfl (v_load rfl rfl Try.underlying33 rfl sz33 (cx.row 0 rfl) rfl) ?_
  refine s_fnB cx (c27 a b _ _ _ hfa1 hfb1 (hz.rep hva).val (hz.rep hvb).val) Try.func27 rfl rfl rfl rfl rfl rfl ?_; intro q10 w cx hw10 hp10
  replace hz := hz.trans (Fz.belC cx hw10)
  refine s_val rfl rfl (v_assign rfl rfl) ?_
  refine wpList_nil ?_
  refine c_split rfl (fun hc7 => ?_) (fun hc7 => ?_)
  · skip
    skip
    have hq : E a b = true := (hE a b).2 (hp10.1 hc7)
    refine wp_seq ?_
    refine wp_region_lit ?_
    refine s_val rfl rfl (v_assign rfl rfl) ?_
    refine wpList_nil ?_
    refine wp_ret ?_
    refine ret_tmp Try.results66 rfl ?_
    refine BtR.cast (btw_eq hq) ?_
    exact ⟨[], (LpC.zero (cx.nilRow 35 29) (hz.trans (Fz.nilRow 35 29))).drop 2⟩
  · skip
    skip
    have hnq : E a b = false := by
      rw [Bool.eq_false_iff]
      intro h
      rw [hp10.2 ((hE a b).1 h)] at hc7; cases hc7
    refine wp_seq ?_
    refine wp_region_lit ?_
    refine s_val rfl rfl (v_fa fa33_0 rfl rfl) ?_
    refine s_val rfl rfl (v_load1 rfl rfl Try.underlying3 rfl (cx.cell 1 rfl rfl)) ?_
    refine s_val rfl rfl (v_cmp rfl rfl rfl rfl) ?_
    refine s_val rfl rfl (v_move rfl rfl) ?_
    refine s_gval rfl rfl rfl (by first | exact w_tt rfl | exact w_gt rfl) (fun hc => v_fa fa33_0 rfl (by first | exact gve hc rfl | exact gve (and_l hc) rfl | exact gve (and_l (and_l hc)) rfl | rfl)) ?_
    refine s_gval rfl rfl rfl (by first | exact w_tt rfl | exact w_gt rfl) (fun hc => v_load1 rfl (by first | exact gve hc rfl | exact gve (and_l hc) rfl | exact gve (and_l (and_l hc)) rfl | rfl) Try.underlying3 rfl (cx.cell 0 rfl rfl)) ?_
    refine s_gval rfl rfl rfl (by first | exact w_tt rfl | exact w_gt rfl) (fun hc => v_cmp rfl (by first | exact gve hc rfl | exact gve (and_l hc) rfl | exact gve (and_l (and_l hc)) rfl | rfl) rfl rfl) ?_
    refine s_val rfl rfl (v_and rfl rfl rfl rfl) ?_
    refine s_val rfl rfl (v_assign rfl rfl) ?_
    refine wpList_nil ?_
    refine c_split rfl (fun hc11 => ?_) (fun hc11 => ?_)
    · skip
      try simp only [Bool.and_eq_true, Bool.or_eq_true, Bool.and_eq_false_iff, Bool.or_eq_false_iff, Bool.not_eq_true', Bool.not_eq_false', decide_eq_true_eq, decide_eq_false_iff_not, beq_iff_eq, beq_eq_false_iff_ne, bne_iff_ne, bne_eq_false_iff_eq, ne_eq, Classical.not_not] at hc11
      have hkk := hc11
      refine wp_seq ?_
      refine wp_region_lit ?_
      refine s_val rfl rfl (v_move rfl rfl) ?_
      refine s_val rfl rfl (v_load rfl rfl Try.underlying33 rfl sz33 (cx.row 1 rfl) rfl) ?_
      refine s_val rfl rfl (v_load rfl rfl Try.underlying33 rfl sz33 (cx.row 0 rfl) rfl) ?_
      refine s_callR rfl rfl (runs_fn Try.func98 rfl rfl rfl rfl) (c98 E d ih wb _ R p _ a b _ _ _ cx (hz.pth hpp) (hz.rep hva) (hz.rep hvb) hoa hob hfa1 hfb1 hnar hpd hd48 (by rw [btw_map hnq hkk.1 hkk.2] at hnb; exact hnb)) ?_; intro q23 w hp23
      refine s_val rfl rfl (v_assign rfl rfl) ?_
      refine wpList_nil ?_
      refine wp_ret ?_
      refine ret_tmp Try.results66 rfl ?_
      refine BtR.cast (btw_map hnq hkk.1 hkk.2) ?_
      obtain ⟨rs2, cx, hz2, hcf2⟩ := hp23
      exact ⟨rs2, (LpC.of rfl rfl cx (hz.trans hz2) hcf2).drop 2⟩
    · skip
      try simp only [Bool.and_eq_true, Bool.or_eq_true, Bool.and_eq_false_iff, Bool.or_eq_false_iff, Bool.not_eq_true', Bool.not_eq_false', decide_eq_true_eq, decide_eq_false_iff_not, beq_iff_eq, beq_eq_false_iff_ne, bne_iff_ne, bne_eq_false_iff_eq, ne_eq, Classical.not_not] at hc11
      have hnk : ¬ (a.sc.kind = 7 ∧ b.sc.kind = 7) := fun h => by
        rcases hc11 with h2 | h2
        · exact h2 h.1
        · exact h2 h.2
      refine wp_seq ?_
      refine wp_region_lit ?_
      refine s_val rfl rfl (v_fa fa33_0 rfl rfl) ?_
      refine s_val rfl rfl (v_load1 rfl rfl Try.underlying3 rfl (cx.cell 1 rfl rfl)) ?_
      refine s_val rfl rfl (v_cmp rfl rfl rfl rfl) ?_
      refine s_val rfl rfl (v_move rfl rfl) ?_
      refine s_gval rfl rfl rfl (by first | exact w_tt rfl | exact w_gt rfl) (fun hc => v_fa fa33_0 rfl (by first | exact gve hc rfl | exact gve (and_l hc) rfl | exact gve (and_l (and_l hc)) rfl | rfl)) ?_
      refine s_gval rfl rfl rfl (by first | exact w_tt rfl | exact w_gt rfl) (fun hc => v_load1 rfl (by first | exact gve hc rfl | exact gve (and_l hc) rfl | exact gve (and_l (and_l hc)) rfl | rfl) Try.underlying3 rfl (cx.cell 0 rfl rfl)) ?_
      refine s_gval rfl rfl rfl (by first | exact w_tt rfl | exact w_gt rfl) (fun hc => v_cmp rfl (by first | exact gve hc rfl | exact gve (and_l hc) rfl | exact gve (and_l (and_l hc)) rfl | rfl) rfl rfl) ?_
      refine s_val rfl rfl (v_and rfl rfl rfl rfl) ?_
      refine s_val rfl rfl (v_assign rfl rfl) ?_
      refine wpList_nil ?_
      refine c_split rfl (fun hc24 => ?_) (fun hc24 => ?_)
      · skip
        try simp only [Bool.and_eq_true, Bool.or_eq_true, Bool.and_eq_false_iff, Bool.or_eq_false_iff, Bool.not_eq_true', Bool.not_eq_false', decide_eq_true_eq, decide_eq_false_iff_not, beq_iff_eq, beq_eq_false_iff_ne, bne_iff_ne, bne_eq_false_iff_eq, ne_eq, Classical.not_not] at hc24
        have hll := hc24
        refine wp_seq ?_
        refine wp_region_lit ?_
        refine s_val rfl rfl (v_move rfl rfl) ?_
        refine s_val rfl rfl (v_fa fa33_6 rfl rfl) ?_
        refine s_val rfl rfl (v_load1 rfl rfl Try.underlying30 rfl (cx.cell 1 rfl rfl)) ?_
        refine s_val rfl rfl (v_fa fa33_6 rfl rfl) ?_
        refine s_val rfl rfl (v_load1 rfl rfl Try.underlying30 rfl (cx.cell 0 rfl rfl)) ?_
        refine s_callR rfl rfl (runs_fn Try.func99 rfl rfl rfl rfl) (c99 E hE d ih wb _ R p _ a.list b.list _ _ _ cx (hz.pth hpp) (hz.repL hla) (hz.repL hlb) (fun x hx => ⟨hoa.2.2.1 _ hx, hfa1.elem hx⟩) (fun x hx => ⟨hob.2.2.1 _ hx, hfb1.elem hx⟩) hnar.1 hnar.2.1 hnar.2.2.1 (fun x hx y hy => hnar.elem hx hy) hpd hd48 (by rw [btw_lst hnq hnk hll.1 hll.2] at hnb; exact hnb)) ?_; intro q38 w hp38
        refine s_val rfl rfl (v_assign rfl rfl) ?_
        refine wpList_nil ?_
        refine wp_ret ?_
        refine ret_tmp Try.results66 rfl ?_
        refine BtR.cast (btw_lst hnq hnk hll.1 hll.2) ?_
        obtain ⟨rs2, cx, hz2, hcf2⟩ := hp38
        exact ⟨rs2, (LpC.of rfl rfl cx (hz.trans hz2) hcf2).drop 2⟩
      · skip
        try simp only [Bool.and_eq_true, Bool.or_eq_true, Bool.and_eq_false_iff, Bool.or_eq_false_iff, Bool.not_eq_true', Bool.not_eq_false', decide_eq_true_eq, decide_eq_false_iff_not, beq_iff_eq, beq_eq_false_iff_ne, bne_iff_ne, bne_eq_false_iff_eq, ne_eq, Classical.not_not] at hc24
        have hnl : ¬ (a.sc.kind = 6 ∧ b.sc.kind = 6) := fun h => by
          rcases hc24 with h2 | h2
          · exact h2 h.1
          · exact h2 h.2
        refine wp_skip ?_
        refine wp_seq ?_
        refine wp_region_lit ?_
        refine s_val rfl rfl (v_move rfl rfl) ?_
        refine s_val rfl rfl (v_load rfl rfl Try.underlying33 rfl sz33 (cx.row 1 rfl) rfl) ?_
        refine s_val rfl rfl (v_load rfl rfl Try.underlying33 rfl sz33 (cx.row 0 rfl) rfl) ?_
        refine s_val rfl rfl (v_build (bd35c _ _ _ _ _ _ _ _ _ _ _) rfl rfl) ?_
        have hh := hz.self
        refine s_bsl1 cx Try.underlying22 sz35 z35 rfl rfl rfl rfl rfl rfl rfl rfl ?_; intro b43 w cx hb43 hw43
        replace hh := hh.trans (Fz.newC cx hb43 hw43)
        refine s_val rfl rfl (v_assign rfl rfl) ?_
        refine wpList_nil ?_
        refine wp_ret ?_
        refine ret_tmp Try.results66 rfl ?_
        refine BtR.cast (btw_rep hnq hnk hnl) ?_
        have hcn : chA (F w _ _) w (⟨1, p, 0, a, b⟩ : Ch) (.int .i64 1 :: .slice pa p.length pc :: .int .i64 0 :: (vrow a.sc abs (.slice la a.list.length lc) afs ++ vrow b.sc bbs (.slice ma b.list.length mc) bfs)) := ⟨_, _, _, rfl, (hz.trans hh).pth hpp, (hz.trans hh).rep hva, (hz.trans hh).rep hvb⟩
        have hTR := Fz.toRow (w := w) (L := ((b5, .cells (vrow b.sc bbs (.slice ma b.list.length mc) bfs).toArray 33) :: (b4, .cells (vrow a.sc abs (.slice la a.list.length lc) afs).toArray 33) :: L)) (R := R) (b := b43) (e := 35) (k := 29) (n := 1) (c := 1) (o := .cells (.int .i64 1 :: .slice pa p.length pc :: .int .i64 0 :: (vrow a.sc abs (.slice la a.list.length lc) afs ++ vrow b.sc bbs (.slice ma b.list.length mc) bfs)).toArray 35) (cs := .int .i64 1 :: .slice pa p.length pc :: .int .i64 0 :: (vrow a.sc abs (.slice la a.list.length lc) afs ++ vrow b.sc bbs (.slice ma b.list.length mc) bfs))
        exact ⟨[.int .i64 1 :: .slice pa p.length pc :: .int .i64 0 :: (vrow a.sc abs (.slice la a.list.length lc) afs ++ vrow b.sc bbs (.slice ma b.list.length mc) bfs)], (LpC.of (S := [⟨1, p, 0, a, b⟩]) (rs := [.int .i64 1 :: .slice pa p.length pc :: .int .i64 0 :: (vrow a.sc abs (.slice la a.list.length lc) afs ++ vrow b.sc bbs (.slice ma b.list.length mc) bfs)]) (k := 1) (X := .int .i64 1 :: .slice pa p.length pc :: .int .i64 0 :: (vrow a.sc abs (.slice la a.list.length lc) afs ++ vrow b.sc bbs (.slice ma b.list.length mc) bfs)) rfl (by simp) (cx.toRow (k := 1) (size := 29) rfl (by decide)) ((hz.trans hh).trans hTR) ⟨hTR.ch1 hcn, trivial⟩).drop 2⟩
end Go.Proofs.Ytmkihcdcgkdilaa
end
section
namespace Go.Proofs.Ytmkihcdcgkdilaa
open Go Go.Dk Go.RowKit
set_option linter.unusedSimpArgs false
set_option linter.unusedVariables false
attribute [local irreducible] Go.wpList Go.Code.wp Go.bodyPost Go.wpStill Go.wpQuiet
def C65 (E : V → V → Bool) (d : Nat) : Prop := ∀ (wb : World) (L : List (Nat × Obj)) (R : List Row) (v : Value) (n : Nat) (cs : List Value) (p : List Stp) (ps : Value) (a b : V) (ra rb : List Value) (w0 : World), Cxr wb w0 L (⟨35, 29, v, n, cs⟩ :: R) → PthA (F w0 L (⟨35, 29, v, n, cs⟩ :: R)) w0 ps p → RepV (F w0 L (⟨35, 29, v, n, cs⟩ :: R)) w0 a ra → RepV (F w0 L (⟨35, 29, v, n, cs⟩ :: R)) w0 b rb → okd d a → okd d b → Fine a → Fine b → Nar d a b → p.length + d ≤ 100 → d ≤ 48 → n + (btw E d p a b).length ≤ 1048576 → Ret Try.prog 65 [v, ps, .agg ra.toArray, .agg rb.toArray] w0 (BtP wb w0 L R v n cs (btw E d p a b))

set_option maxRecDepth 10000 in
set_option maxHeartbeats 6400000 in
theorem c96 (E : V → V → Bool) (d : Nat) (ih : C65 E d) (wb : World) (L : List (Nat × Obj)) (R : List Row) (v : Value) (n : Nat) (cs : List Value) (p : List Stp) (ps : Value) (a b : V) (ra rb : List Value) (w0 : World) : Cxr wb w0 L (⟨35, 29, v, n, cs⟩ :: R) → PthA (F w0 L (⟨35, 29, v, n, cs⟩ :: R)) w0 ps p → RepV (F w0 L (⟨35, 29, v, n, cs⟩ :: R)) w0 a ra → RepV (F w0 L (⟨35, 29, v, n, cs⟩ :: R)) w0 b rb → okd (d + 1) a → okd (d + 1) b → Fine a → Fine b → Nar (d + 1) a b → p.length + (d + 1) ≤ 100 → (d + 1) ≤ 48 → n + ((kepC (btw E d) p b.fields a.fields ++ remC p b.fields a.fields 0 ++ addC p a.fields b.fields (nkep b.fields a.fields))).length ≤ 1048576 → Ret Try.prog 96 [v, ps, .agg ra.toArray, .agg rb.toArray] w0 (BtP wb w0 L R v n cs (kepC (btw E d) p b.fields a.fields ++ remC p b.fields a.fields 0 ++ addC p a.fields b.fields (nkep b.fields a.fields))) := by
  intro cx hpp hva hvb hoa hob hfa1 hfb1 hnar hpd hd48 hnb
  have hO1 := id (RepV.open hva)
  obtain ⟨abs, als, afs, rfl, _, _, haf0⟩ := hO1
  have hO2 := id (RepV.open hvb)
  obtain ⟨bbs, bls, bfs, rfl, _, _, hbf0⟩ := hO2
  obtain ⟨fb, fo, hfsl, hfreps⟩ := haf0
  have hO3 := hfsl.form
  obtain ⟨fa, fc, rfl, hfa⟩ := hO3
  obtain ⟨gb, go, hgsl, hgreps⟩ := hbf0
  have hO4 := hgsl.form
  obtain ⟨ga, gc, rfl, hga⟩ := hO4
  have hafl := hfa1.self.2.2.2.2
  have hbfl := hfb1.self.2.2.2.2
  rw [List.length_append, List.length_append] at hnb
  refine ret_enter Try.func96 rfl Try.ntmps96 rfl ?_
  skip
  refine wp_seq ?_
  refine wp_region_lit ?_
  refine s_box cx rfl rfl rfl rfl rfl ?_; intro b6 w cx hb6 hw6
  refine s_box cx rfl rfl rfl rfl rfl ?_; intro b7 w cx hb7 hw7
  refine s_val rfl rfl (v_assign rfl rfl) ?_
  refine wpList_nil ?_
  refine wp_seq ?_
  refine wp_seq ?_
  refine wp_region_lit ?_
  have hz : Fz w0 L (⟨35, 29, v, n, cs⟩ :: R) w ((b7, .cells (vrow b.sc bbs bls (.slice ga b.fields.length gc)).toArray 33) :: (b6, .cells (vrow a.sc abs als (.slice fa a.fields.length fc)).toArray 33) :: L) (⟨35, 29, v, n, cs⟩ :: R) := (Fz.new hb6 hw6).trans (Fz.new hb7 hw7)
  refine s_val rfl rfl (v_fa fa33_7 rfl rfl) ?_
  refine s_val rfl rfl (v_load1 rfl rfl Try.underlying31 rfl (cx.cell 1 rfl rfl)) ?_
  refine s_val rfl rfl (v_lenSlice rfl rfl Try.underlying31) ?_
  refine s_val rfl rfl (v_move rfl rfl) ?_
  refine wpList_nil ?_
  refine wp_block ?_
  refine w_loop (fun k f w1 => ∃ (i : Nat) (x : Value) (S : List Ch) (rs : List (List Value)), k + i = a.fields.length ∧ f 0 = x ∧ f 1 = ps ∧ f 6 = .pointer (some ⟨b6, 0, none⟩) ∧ f 7 = .pointer (some ⟨b7, 0, none⟩) ∧ f 24 = .slice fa a.fields.length fc ∧ f 25 = .int .i64 (a.fields.length : Nat) ∧ f 26 = .int .i64 (i : Nat) ∧ Sho n (kepC (btw E d) p b.fields (a.fields.take i)) S ∧ LpC wb w0 L (⟨35, 29, v, n, cs⟩ :: R) ((b7, .cells (vrow b.sc bbs bls (.slice ga b.fields.length gc)).toArray 33) :: (b6, .cells (vrow a.sc abs als (.slice fa a.fields.length fc)).toArray 33) :: L) R n cs S x rs w1) (a.fields.length) ?_ ?_
  · skip
    exact ⟨0, v, [], [], by omega, rfl, rfl, rfl, rfl, rfl, rfl, rfl, (Sho.nil n).cast (by simp [kepC]), LpC.zero cx hz⟩
  intro gk2 f w hJ
  obtain ⟨i, x, S, rs, hki, hs0, hs1, hs6, hs7, hs24, hs25, hs26, hsh, cx, hz, hcf⟩ := hJ
  refine wp_seq ?_
  refine wp_region_lit ?_
  refine s_val rfl rfl (v_cmp rfl hs26 hs25 rfl) ?_
  refine wpList_nil ?_
  refine wp_seq ?_
  refine c_split rfl (fun hc27 => ?_) (fun hc27 => ?_)
  · skip
    try simp only [Bool.and_eq_true, Bool.or_eq_true, Bool.and_eq_false_iff, Bool.or_eq_false_iff, Bool.not_eq_true', Bool.not_eq_false', decide_eq_true_eq, decide_eq_false_iff_not, beq_iff_eq, beq_eq_false_iff_ne, bne_iff_ne, bne_eq_false_iff_eq, ne_eq, Classical.not_not] at hc27
    have hil : i < a.fields.length := by omega
    have hO5 := hfa (by omega)
    obtain rfl := hO5
    have hFfb := hfsl.inA (by omega)
    have hO6 := fld_at hz hfreps hil hFfb
    obtain ⟨r, hr, hrv⟩ := hO6
    have hO7 := hrv.open
    obtain ⟨ebs, els, efs, rfl, _⟩ := hO7
    have hkm : a.fields[i] ∈ a.fields := List.getElem_mem _
    have hh := hz.self
    have hb1 := kepC_le (btw E d) p b.fields a.fields (i + 1)
    rw [kepC_take (btw E d) p b.fields hil] at hb1
    have hSl := hsh.1
    refine wp_skip ?_
    refine wp_seq ?_
    refine wp_block ?_
    refine wp_seq ?_
    refine wp_region_lit ?_
    refine s_val rfl rfl (v_ia Try.underlying31 sz77 rfl hs24 hs26 (by omega) (by omega)) ?_
    refine s_val rfl rfl (v_load rfl rfl Try.underlying77 rfl sz77 hr rfl) ?_
    refine s_alloc cx z77 rfl rfl rfl ?_; intro b10 w cx hb10 hw10
    refine s_storeAllG cx 0 rfl rfl rfl rfl rfl rfl sz77 rfl (rowF_one hrv) ?_; intro w cx hg10
    replace cx := cx.set0
    replace hh := hh.trans (Fz.newSet cx hb10 hw10 hg10)
    replace hrv := (Fz.newSet cx hb10 hw10 hg10).rep hrv
    refine wpList_nil ?_
    refine wp_seq ?_
    refine wp_region_lit ?_
    refine s_val rfl rfl (v_load rfl hs7 Try.underlying33 rfl sz33 (cx.row 1 rfl) rfl) ?_
    refine s_val rfl rfl (v_fa fa77_0 rfl rfl) ?_
    refine s_val rfl rfl (v_load1 rfl rfl Try.underlying9 rfl (cx.cell 0 rfl rfl)) ?_
    have cx34 := cx
    refine s_fn cx (c80g 48 b _ a.fields[i].1 _ (deep_mono _ _ _ (deep_of_okd _ _ hob) (by omega)) (by omega) ((hz.trans hh).rep hvb).val hfb1 (by
      by_cases h7 : b.sc.kind = 7
      · exact .inl h7
      · exact .inr (List.eq_nil_of_length_eq_zero (hob.1.fields h7)))) Try.func80 rfl rfl rfl rfl rfl rfl ?_; intro q34 w cx hw34 hp34
    obtain ⟨lu, bb, rfl, hlul, hluo, hlm⟩ := hp34
    have hO8 := RepO.copied cx34 hw34 hlm
    obtain ⟨hbb, hlu⟩ := hO8
    replace hh := hh.trans (Fz.belC cx hw34)
    replace hrv := (Fz.belC cx hw34).rep hrv
    refine s_val rfl rfl (v_move rfl rfl) ?_
    refine s_val rfl rfl (v_extract rfl rfl rfl) ?_
    refine s_val rfl rfl (v_extract rfl rfl rfl) ?_
    refine s_alloc cx z33 rfl rfl rfl ?_; intro b11 w cx hb11 hw11
    refine s_storeAllG cx 0 rfl rfl rfl rfl rfl rfl (by rw [hlul]; exact sz33) (by rw [hlul]; rfl) hluo ?_; intro w cx hg11
    replace cx := cx.set0
    replace hh := hh.trans (Fz.newSet cx hb11 hw11 hg11)
    replace hrv := (Fz.newSet cx hb11 hw11 hg11).rep hrv
    replace hlu := (Fz.newSet cx hb11 hw11 hg11).repO hlu
    refine s_val rfl rfl (v_assign rfl rfl) ?_
    refine wpList_nil ?_
    refine wp_seq ?_
    refine wp_region_lit ?_
    refine s_val rfl rfl (v_move rfl rfl) ?_
    refine wpList_nil ?_
    refine c_split rfl (fun hc37 => ?_) (fun hc37 => ?_)
    · skip
      skip
      have hO9 := Option.isSome_iff_exists.1 (hbb.symm.trans hc37)
      obtain ⟨u, hu⟩ := hO9
      replace hlu := hlu u hu
      rw [hu, List.length_append] at hb1
      dsimp only at hb1
      refine w_ord cx (cx.pick2 1 0 rfl rfl rfl) mixed [(0, 38), (1, 39), (2, 40), (3, 41), (6, 44), (7, 45), (8, 46)] #[true, true, true, true, false, false, true, true, true, false, false] (by kernel_rfl) (by kernel_rfl) (by kernel_rfl) (by kernel_rfl) ?_
      refine pu_one rfl (wnt_none rfl) (fun w cx => v_move rfl hs0) ?_
      refine pu_one rfl (wnt_none rfl) (fun w cx => v_move rfl hs1) ?_
      refine pu_one rfl (wnt_none rfl) (fun w cx => v_fa fa77_0 rfl rfl) ?_
      refine pu_one rfl (wnt_none rfl) (fun w cx => v_load1 rfl rfl Try.underlying9 rfl (cx.cell 0 rfl rfl)) ?_
      refine pu_one rfl (wnt_none rfl) (fun w cx => v_fa fa77_1 rfl rfl) ?_
      refine pu_one rfl (wnt_none rfl) (fun w cx => v_load rfl rfl Try.underlying33 rfl sz33 ((cx.row 0 rfl).tail) rfl) ?_
      refine pu_one rfl (wnt_none rfl) (fun w cx => v_load rfl rfl Try.underlying33 rfl sz33 (cx.row 1 rfl) hlul) ?_
      refine pu_nil ?_; intro w cx hwD6
      replace hh := hh.trans (Fz.belC cx hwD6)
      replace hrv := (Fz.belC cx hwD6).rep hrv
      replace hlu := (Fz.belC cx hwD6).rep hlu
      refine x_one (i := 4) (by kernel_rfl) rfl ?_
      refine s_fn cx (c82 a.fields[i].1 _) Try.func82 rfl rfl rfl rfl rfl rfl ?_; intro q42 w cx hw42 hp42
      subst hp42
      replace hh := hh.trans (Fz.belC cx hw42)
      replace hrv := (Fz.belC cx hw42).rep hrv
      replace hlu := (Fz.belC cx hw42).rep hlu
      refine x_next ⟨.inl (cx.pick2 1 0 rfl rfl rfl), ?_⟩
      refine x_one (i := 5) (by kernel_rfl) rfl ?_
      have cx43 := cx
      refine s_fn cx (c81 (keyS a.fields[i].1) _ p _ _ F.lt ((hz.trans hh).pth hpp) (by omega)) Try.func81 rfl rfl rfl rfl rfl rfl ?_; intro q43 w cx hw43 hp43
      replace hp43 := hp43.fr cx43 hw43.size
      replace hh := hh.trans (Fz.belC cx hw43)
      replace hrv := (Fz.belC cx hw43).rep hrv
      replace hlu := (Fz.belC cx hw43).rep hlu
      refine x_next ⟨.inl (cx.pick2 1 0 rfl rfl rfl), ?_⟩
      refine x_one (i := 9) (by kernel_rfl) rfl ?_
      refine s_callR rfl rfl (runs_fn Try.func65 rfl rfl rfl rfl) (ih wb _ _ x _ _ (p ++ [keyS a.fields[i].1]) _ a.fields[i].2 u _ _ _ cx hp43 hrv hlu (hoa.2.2.2 _ hkm) (hob.2.2.2 _ (hasF_mem hu)) (hfa1.field hkm).2 (hfb1.field (hasF_mem hu)).2 (hnar.field hkm hu) (by rw [List.length_append, List.length_singleton]; omega) (by omega) (by omega)) ?_; intro q47 w hp47
      obtain ⟨S2, rs2, hsh2, cx, hz2, hcf2⟩ := hp47
      replace hh := hh.trans hz2
      refine x_next ⟨.inr (by kernel_rfl), ?_⟩
      refine x_one (i := 10) (by kernel_rfl) rfl ?_
      refine s_val rfl rfl (v_assign rfl rfl) ?_
      refine x_next ⟨.inr (by kernel_rfl), ?_⟩
      refine x_done (by kernel_rfl) ?_
      refine wp_region_lit ?_
      refine s_val rfl rfl (v_add rfl hs26 rfl (by omega) (by omega)) ?_
      refine s_val rfl rfl (v_move rfl rfl) ?_
      refine wpList_nil ?_
      refine ⟨gk2 - 1, _, by omega, rfl, i + 1, q47, S ++ S2, rs ++ rs2, by omega, rfl, hs1, hs6, hs7, hs24, hs25, rfl, (hsh.append hsh2).cast (by rw [kepC_take _ _ _ hil, hu]), LpC.of ?_ ?_ cx.tl.tl (hz.trans (hh.trans (Fz.tl.trans Fz.tl))) (Rws.append ((hh.trans (Fz.tl.trans Fz.tl)).chs hcf) ((Fz.tl.trans Fz.tl).chs hcf2))⟩
      · simp only [List.length_append, List.length_singleton]; omega
      · simp
    · skip
      skip
      have hu : hasF a.fields[i].1 b.fields = none := by
        cases hx : hasF a.fields[i].1 b.fields with
        | none => rfl
        | some u => rw [hx] at hbb; rw [hbb] at hc37; cases hc37
      refine wp_skip ?_
      refine wp_region_lit ?_
      refine s_val rfl rfl (v_add rfl hs26 rfl (by omega) (by omega)) ?_
      refine s_val rfl rfl (v_move rfl rfl) ?_
      refine wpList_nil ?_
      refine ⟨gk2 - 1, _, by omega, rfl, i + 1, x, S, rs, by omega, hs0, hs1, hs6, hs7, hs24, hs25, rfl, hsh.cast (by rw [kepC_take _ _ _ hil, hu]; simp), LpC.of rfl rfl cx.tl.tl (hz.trans (hh.trans (Fz.tl.trans Fz.tl))) ((hh.trans (Fz.tl.trans Fz.tl)).chs hcf)⟩
  · skip
    try simp only [Bool.and_eq_true, Bool.or_eq_true, Bool.and_eq_false_iff, Bool.or_eq_false_iff, Bool.not_eq_true', Bool.not_eq_false', decide_eq_true_eq, decide_eq_false_iff_not, beq_iff_eq, beq_eq_false_iff_ne, bne_iff_ne, bne_eq_false_iff_eq, ne_eq, Classical.not_not] at hc27
    refine wp_exit ?_
    refine wp_seq ?_
    refine wp_region_lit ?_
    refine s_val rfl rfl (v_assign rfl rfl) ?_
    refine wpList_nil ?_
    refine wp_seq ?_
    refine wp_seq ?_
    refine wp_region_lit ?_
    refine s_val rfl rfl (v_fa fa33_7 rfl hs6) ?_
    refine s_val rfl rfl (v_load1 rfl rfl Try.underlying31 rfl (cx.cell 1 rfl rfl)) ?_
    refine s_val rfl rfl (v_lenSlice rfl rfl Try.underlying31) ?_
    refine s_val rfl rfl (v_move rfl rfl) ?_
    refine wpList_nil ?_
    refine wp_block ?_
    have hia : i = a.fields.length := by omega
    subst hia
    rw [List.take_of_length_le (Nat.le_refl _)] at hsh
    refine w_loop (fun k f w1 => ∃ (i : Nat) (x : Value) (S : List Ch) (rs : List (List Value)), k + i = a.fields.length ∧ f 0 = x ∧ f 1 = ps ∧ f 6 = .pointer (some ⟨b6, 0, none⟩) ∧ f 7 = .pointer (some ⟨b7, 0, none⟩) ∧ f 13 = .int .i64 ((i - nkep b.fields (a.fields.take i) : Nat) : Int) ∧ f 50 = .slice fa a.fields.length fc ∧ f 51 = .int .i64 (a.fields.length : Nat) ∧ f 52 = .int .i64 (i : Nat) ∧ Sho n (kepC (btw E d) p b.fields a.fields ++ remC p b.fields (a.fields.take i) 0) S ∧ LpC wb w0 L (⟨35, 29, v, n, cs⟩ :: R) ((b7, .cells (vrow b.sc bbs bls (.slice ga b.fields.length gc)).toArray 33) :: (b6, .cells (vrow a.sc abs als (.slice fa a.fields.length fc)).toArray 33) :: L) R n cs S x rs w1) (a.fields.length) ?_ ?_
    · skip
      exact ⟨0, x, S, rs, by omega, hs0, hs1, hs6, hs7, rfl, rfl, rfl, rfl, hsh.cast (by simp [remC]), LpC.of rfl rfl cx hz hcf⟩
    intro gk10 f w hJ
    obtain ⟨i, x, S, rs, hki, hs0, hs1, hs6, hs7, hs13, hs50, hs51, hs52, hsh, cx, hz, hcf⟩ := hJ
    refine wp_seq ?_
    refine wp_region_lit ?_
    refine s_val rfl rfl (v_cmp rfl hs52 hs51 rfl) ?_
    refine wpList_nil ?_
    refine wp_seq ?_
    refine c_split rfl (fun hc53 => ?_) (fun hc53 => ?_)
    · skip
      try simp only [Bool.and_eq_true, Bool.or_eq_true, Bool.and_eq_false_iff, Bool.or_eq_false_iff, Bool.not_eq_true', Bool.not_eq_false', decide_eq_true_eq, decide_eq_false_iff_not, beq_iff_eq, beq_eq_false_iff_ne, bne_iff_ne, bne_eq_false_iff_eq, ne_eq, Classical.not_not] at hc53
      have hil : i < a.fields.length := by omega
      have hO10 := hfa (by omega)
      obtain rfl := hO10
      have hFfb := hfsl.inA (by omega)
      have hO11 := fld_at hz hfreps hil hFfb
      obtain ⟨r, hr, hrv⟩ := hO11
      have hO12 := hrv.open
      obtain ⟨ebs, els, efs, rfl, _⟩ := hO12
      have hkm : a.fields[i] ∈ a.fields := List.getElem_mem _
      have hh := hz.self
      have hb1 := remC_le p b.fields a.fields (i + 1)
      rw [remC_take p b.fields hil] at hb1
      have hnk := nkep_take b.fields hil
      have hnl := nkep_le b.fields (a.fields.take i)
      rw [List.length_take] at hnl
      have hSl := hsh.1
      rw [List.length_append] at hSl
      refine wp_skip ?_
      refine wp_seq ?_
      refine wp_block ?_
      refine wp_seq ?_
      refine wp_region_lit ?_
      refine s_val rfl rfl (v_move rfl hs52) ?_
      refine s_val rfl rfl (v_ia Try.underlying31 sz77 rfl hs50 hs52 (by omega) (by omega)) ?_
      refine s_val rfl rfl (v_load rfl rfl Try.underlying77 rfl sz77 hr rfl) ?_
      refine s_alloc cx z77 rfl rfl rfl ?_; intro b15 w cx hb15 hw15
      refine s_val rfl rfl (v_assign rfl rfl) ?_
      refine s_storeAllG cx 0 rfl rfl rfl rfl rfl rfl sz77 rfl (rowF_one hrv) ?_; intro w cx hg15
      replace cx := cx.set0
      replace hh := hh.trans (Fz.newSet cx hb15 hw15 hg15)
      replace hrv := (Fz.newSet cx hb15 hw15 hg15).rep hrv
      refine wpList_nil ?_
      refine wp_seq ?_
      refine wp_region_lit ?_
      refine s_val rfl rfl (v_load rfl hs7 Try.underlying33 rfl sz33 (cx.row 1 rfl) rfl) ?_
      refine s_val rfl rfl (v_fa fa77_0 rfl rfl) ?_
      refine s_val rfl rfl (v_load1 rfl rfl Try.underlying9 rfl (cx.cell 0 rfl rfl)) ?_
      have cx61 := cx
      refine s_fn cx (c80g 48 b _ a.fields[i].1 _ (deep_mono _ _ _ (deep_of_okd _ _ hob) (by omega)) (by omega) ((hz.trans hh).rep hvb).val hfb1 (by
        by_cases h7 : b.sc.kind = 7
        · exact .inl h7
        · exact .inr (List.eq_nil_of_length_eq_zero (hob.1.fields h7)))) Try.func80 rfl rfl rfl rfl rfl rfl ?_; intro q61 w cx hw61 hp61
      obtain ⟨lu, bb, rfl, hlul, hluo, hlm⟩ := hp61
      have hO13 := RepO.copied cx61 hw61 hlm
      obtain ⟨hbb, hlu⟩ := hO13
      replace hh := hh.trans (Fz.belC cx hw61)
      replace hrv := (Fz.belC cx hw61).rep hrv
      refine s_val rfl rfl (v_move rfl rfl) ?_
      refine s_val rfl rfl (v_extract rfl rfl rfl) ?_
      refine s_val rfl rfl (v_extract rfl rfl rfl) ?_
      refine s_alloc cx z33 rfl rfl rfl ?_; intro b16 w cx hb16 hw16
      refine s_storeAllG cx 0 rfl rfl rfl rfl rfl rfl (by rw [hlul]; exact sz33) (by rw [hlul]; rfl) hluo ?_; intro w cx hg16
      replace cx := cx.set0
      replace hh := hh.trans (Fz.newSet cx hb16 hw16 hg16)
      replace hrv := (Fz.newSet cx hb16 hw16 hg16).rep hrv
      replace hlu := (Fz.newSet cx hb16 hw16 hg16).repO hlu
      refine s_val rfl rfl (v_assign rfl rfl) ?_
      refine wpList_nil ?_
      refine wp_seq ?_
      refine wp_region_lit ?_
      refine s_val rfl rfl (v_move rfl rfl) ?_
      refine s_val rfl rfl (v_not rfl rfl) ?_
      refine wpList_nil ?_
      refine c_split rfl (fun hc65 => ?_) (fun hc65 => ?_)
      · skip
        skip
        have hc66 : (hasF a.fields[i].1 b.fields).isSome = false := by rw [← hbb]; simpa using hc65
        rw [if_neg (by rw [hc66]; exact Bool.false_ne_true), List.length_append, List.length_singleton] at hb1
        rw [if_neg (by rw [hc66]; exact Bool.false_ne_true)] at hnk
        refine wp_seq ?_
        refine w_ord cx (cx.pick1 1 rfl) mixed [(0, 66), (1, 67), (2, 68), (3, 69), (6, 72), (7, 73), (8, 74), (9, 75), (10, 76)] #[true, true, true, true, false, false, true, true, true, true, true, false, false, false, false, false] (by kernel_rfl) (by kernel_rfl) (by kernel_rfl) (by kernel_rfl) ?_
        refine pu_one rfl (wnt_none rfl) (fun w cx => v_move rfl hs0) ?_
        refine pu_one rfl (wnt_none rfl) (fun w cx => v_move rfl hs1) ?_
        refine pu_one rfl (wnt_none rfl) (fun w cx => v_fa fa77_0 rfl rfl) ?_
        refine pu_one rfl (wnt_none rfl) (fun w cx => v_load1 rfl rfl Try.underlying9 rfl (cx.cell 0 rfl rfl)) ?_
        refine pu_one rfl (wnt_none rfl) (fun w cx => v_move rfl rfl) ?_
        refine pu_one rfl (wnt_none rfl) (fun w cx => v_move rfl hs13) ?_
        refine pu_one rfl (wnt_none rfl) (fun w cx => v_subQ rfl rfl rfl (r := ((nkep b.fields (a.fields.take i) : Nat) : Int)) (by omega) (by omega) (by omega)) ?_
        refine pu_one rfl (wnt_none rfl) (fun w cx => v_fa fa77_1 rfl rfl) ?_
        refine pu_one rfl (wnt_none rfl) (fun w cx => v_load rfl rfl Try.underlying33 rfl sz33 ((cx.row 0 rfl).tail) rfl) ?_
        refine pu_nil ?_; intro w cx hwD14
        replace hh := hh.trans (Fz.belC cx hwD14)
        replace hrv := (Fz.belC cx hwD14).rep hrv
        refine x_one (i := 4) (by kernel_rfl) rfl ?_
        refine s_fn cx (c82 a.fields[i].1 _) Try.func82 rfl rfl rfl rfl rfl rfl ?_; intro q70 w cx hw70 hp70
        subst hp70
        replace hh := hh.trans (Fz.belC cx hw70)
        replace hrv := (Fz.belC cx hw70).rep hrv
        try replace hr77 := (Fz.belC cx hw70).rep hr77
        refine x_next ⟨.inl (cx.pick1 1 rfl), ?_⟩
        refine x_one (i := 5) (by kernel_rfl) rfl ?_
        have cx71 := cx
        refine s_fn cx (c81 (keyS a.fields[i].1) _ p _ _ F.lt ((hz.trans hh).pth hpp) (by omega)) Try.func81 rfl rfl rfl rfl rfl rfl ?_; intro q71 w cx hw71 hp71
        replace hp71 := hp71.fr cx71 hw71.size
        replace hh := hh.trans (Fz.belC cx hw71)
        replace hrv := (Fz.belC cx hw71).rep hrv
        try replace hr77 := (Fz.belC cx hw71).rep hr77
        refine x_next ⟨.inl (cx.pick1 1 rfl), ?_⟩
        refine x_one (i := 11) (by kernel_rfl) rfl ?_
        have cx77 := cx
        refine s_fn cx (c60 48 (a.fields[i].2) _ _ (deep_mono _ _ _ (deep_of_okd _ _ (hoa.2.2.2 _ hkm)) (by omega)) (by omega) hrv.val ((hfa1.field hkm).2)) Try.func60 rfl rfl rfl rfl rfl rfl ?_; intro q77 w cx hw77 hp77
        have hO14 := Made.fr hp77 cx77 hw77
        obtain ⟨cb77, cl77, cf77, rfl, hr77⟩ := hO14
        replace hh := hh.trans (Fz.belC cx hw77)
        replace hrv := (Fz.belC cx hw77).rep hrv
        try replace hp71 := (Fz.belC cx hw77).pth hp71
        refine x_next ⟨.inl (cx.pick1 1 rfl), ?_⟩
        refine x_one (i := 12) (by kernel_rfl) rfl ?_
        have hO15 := hp71.sl
        obtain ⟨pa, pc, rfl⟩ := hO15
        refine s_val rfl rfl (v_build (bd35r2 _ _ _ _ _ _ _ _) rfl rfl) ?_
        refine x_next ⟨.inl (cx.pick1 1 rfl), ?_⟩
        refine x_one (i := 13) (by kernel_rfl) rfl ?_
        refine s_bsl1 cx Try.underlying22 sz35 z35 rfl rfl rfl rfl rfl rfl rfl rfl ?_; intro b79 w cx hb79 hw79
        have hr79 : RowAt w b79 0 (.int .i64 3 :: .slice pa (p ++ [keyS a.fields[i].1]).length pc :: .int .i64 (nkep b.fields (a.fields.take i) : Nat) :: (vrow a.fields[i].2.sc cb77 cl77 cf77 ++ vrow (zk 0) (.slice none 0 0) (.slice none 0 0) (.slice none 0 0))) := cx.row 0 rfl
        replace cx := cx.tl
        replace hh := hh.trans (Fz.belC cx hw79)
        replace hr77 := (Fz.belC cx hw79).rep hr77
        replace hp71 := (Fz.belC cx hw79).pth hp71
        refine x_next ⟨.inl (cx.pick1 1 rfl), ?_⟩
        refine x_one (i := 14) (by kernel_rfl) rfl ?_
        have hcn : chA (F w _ _) w (⟨3, p ++ [keyS a.fields[i].1], (nkep b.fields (a.fields.take i) : Nat), a.fields[i].2, nulV⟩ : Ch) (.int .i64 3 :: .slice pa (p ++ [keyS a.fields[i].1]).length pc :: .int .i64 (nkep b.fields (a.fields.take i) : Nat) :: (vrow a.fields[i].2.sc cb77 cl77 cf77 ++ vrow (zk 0) (.slice none 0 0) (.slice none 0 0) (.slice none 0 0))) := ⟨_, _, _, rfl, hp71, hr77, rep_nul⟩
        refine s_appendG (m := 1) cx ei35 Try.underlying22 rfl rfl rfl rfl rfl hr79 rfl (chA.one _ _ hcn) (by omega) ?_; intro v80 w cx hgr80 hnw80
        replace hh := hh.trans (Fz.appC cx hgr80 hnw80)
        replace hcn := (Fz.appC cx hgr80 hnw80).ch1 hcn
        refine x_next ⟨.inr (by kernel_rfl), ?_⟩
        refine x_one (i := 15) (by kernel_rfl) rfl ?_
        refine s_val rfl rfl (v_assign rfl rfl) ?_
        refine x_next ⟨.inr (by kernel_rfl), ?_⟩
        refine x_done (by kernel_rfl) ?_
        refine wp_region_lit ?_
        refine s_val rfl rfl (v_move rfl hs13) ?_
        refine s_val rfl rfl (v_addQ rfl rfl rfl (r := ((i + 1 - nkep b.fields (a.fields.take (i + 1)) : Nat) : Int)) (by omega) (by omega) (by omega)) ?_
        refine s_val rfl rfl (v_assign rfl rfl) ?_
        refine wpList_nil ?_
        refine wp_region_lit ?_
        refine s_val rfl rfl (v_add rfl hs52 rfl (by omega) (by omega)) ?_
        refine s_val rfl rfl (v_move rfl rfl) ?_
        refine wpList_nil ?_
        refine ⟨gk10 - 1, _, by omega, rfl, i + 1, v80, S ++ [⟨3, p ++ [keyS a.fields[i].1], (nkep b.fields (a.fields.take i) : Nat), a.fields[i].2, nulV⟩], rs ++ [_], by omega, rfl, hs1, hs6, hs7, rfl, hs50, hs51, rfl, (hsh.snoc _).cast (by rw [remC_take _ _ hil, if_neg (by rw [hc66]; exact Bool.false_ne_true), List.append_assoc]), LpC.of ?_ ?_ cx.tl.tl (hz.trans (hh.trans (Fz.tl.trans Fz.tl))) (Rws.append ((hh.trans (Fz.tl.trans Fz.tl)).chs hcf) ⟨(Fz.tl.trans Fz.tl).ch1 hcn, trivial⟩)⟩
        · simp only [List.length_append, List.length_singleton]; omega
        · simp
      · skip
        skip
        have hc66 : (hasF a.fields[i].1 b.fields).isSome = true := by rw [← hbb]; simpa using hc65
        rw [if_pos hc66] at hb1 hnk
        refine wp_skip ?_
        refine wp_region_lit ?_
        refine s_val rfl rfl (v_add rfl hs52 rfl (by omega) (by omega)) ?_
        refine s_val rfl rfl (v_move rfl rfl) ?_
        refine wpList_nil ?_
        refine ⟨gk10 - 1, _, by omega, rfl, i + 1, x, S, rs, by omega, hs0, hs1, hs6, hs7, (hs13.trans (by congr 2; omega)), hs50, hs51, rfl, hsh.cast (by rw [remC_take _ _ hil, if_pos hc66, List.append_nil]), LpC.of rfl rfl cx.tl.tl (hz.trans (hh.trans (Fz.tl.trans Fz.tl))) ((hh.trans (Fz.tl.trans Fz.tl)).chs hcf)⟩
    · skip
      try simp only [Bool.and_eq_true, Bool.or_eq_true, Bool.and_eq_false_iff, Bool.or_eq_false_iff, Bool.not_eq_true', Bool.not_eq_false', decide_eq_true_eq, decide_eq_false_iff_not, beq_iff_eq, beq_eq_false_iff_ne, bne_iff_ne, bne_eq_false_iff_eq, ne_eq, Classical.not_not] at hc53
      refine wp_exit ?_
      refine wp_seq ?_
      refine wp_region_lit ?_
      have hnl2 := nkep_le b.fields a.fields
      have hia : i = a.fields.length := by omega
      subst hia
      rw [List.take_of_length_le (Nat.le_refl _)] at hsh hs13
      refine s_val rfl rfl (v_fa fa33_7 rfl hs6) ?_
      refine s_val rfl rfl (v_load1 rfl rfl Try.underlying31 rfl (cx.cell 1 rfl rfl)) ?_
      refine s_val rfl rfl (v_lenSlice rfl rfl Try.underlying31) ?_
      refine s_val rfl rfl (v_move rfl hs13) ?_
      refine s_val rfl rfl (v_subQ rfl rfl rfl (r := ((nkep b.fields a.fields : Nat) : Int)) (by omega) (by omega) (by omega)) ?_
      refine s_val rfl rfl (v_assign rfl rfl) ?_
      refine wpList_nil ?_
      refine wp_seq ?_
      refine wp_seq ?_
      refine wp_region_lit ?_
      refine s_val rfl rfl (v_fa fa33_7 rfl hs7) ?_
      refine s_val rfl rfl (v_load1 rfl rfl Try.underlying31 rfl (cx.cell 0 rfl rfl)) ?_
      refine s_val rfl rfl (v_lenSlice rfl rfl Try.underlying31) ?_
      refine s_val rfl rfl (v_move rfl rfl) ?_
      refine wpList_nil ?_
      refine wp_block ?_
      refine w_loop (fun k f w1 => ∃ (i : Nat) (x : Value) (S : List Ch) (rs : List (List Value)), k + i = b.fields.length ∧ f 0 = x ∧ f 1 = ps ∧ f 6 = .pointer (some ⟨b6, 0, none⟩) ∧ f 7 = .pointer (some ⟨b7, 0, none⟩) ∧ f 18 = .int .i64 ((nkep b.fields a.fields + (i - nkep a.fields (b.fields.take i)) : Nat) : Int) ∧ f 90 = .slice ga b.fields.length gc ∧ f 91 = .int .i64 (b.fields.length : Nat) ∧ f 92 = .int .i64 (i : Nat) ∧ Sho n (kepC (btw E d) p b.fields a.fields ++ remC p b.fields a.fields 0 ++ addC p a.fields (b.fields.take i) (nkep b.fields a.fields)) S ∧ LpC wb w0 L (⟨35, 29, v, n, cs⟩ :: R) ((b7, .cells (vrow b.sc bbs bls (.slice ga b.fields.length gc)).toArray 33) :: (b6, .cells (vrow a.sc abs als (.slice fa a.fields.length fc)).toArray 33) :: L) R n cs S x rs w1) (b.fields.length) ?_ ?_
      · skip
        exact ⟨0, x, S, rs, by omega, hs0, hs1, hs6, hs7, rfl, rfl, rfl, rfl, hsh.cast (by simp [addC]), LpC.of rfl rfl cx hz hcf⟩
      intro gk19 f w hJ
      obtain ⟨i, x, S, rs, hki, hs0, hs1, hs6, hs7, hs18, hs90, hs91, hs92, hsh, cx, hz, hcf⟩ := hJ
      refine wp_seq ?_
      refine wp_region_lit ?_
      refine s_val rfl rfl (v_cmp rfl hs92 hs91 rfl) ?_
      refine wpList_nil ?_
      refine wp_seq ?_
      refine c_split rfl (fun hc93 => ?_) (fun hc93 => ?_)
      · skip
        try simp only [Bool.and_eq_true, Bool.or_eq_true, Bool.and_eq_false_iff, Bool.or_eq_false_iff, Bool.not_eq_true', Bool.not_eq_false', decide_eq_true_eq, decide_eq_false_iff_not, beq_iff_eq, beq_eq_false_iff_ne, bne_iff_ne, bne_eq_false_iff_eq, ne_eq, Classical.not_not] at hc93
        have hil : i < b.fields.length := by omega
        have hO16 := hga (by omega)
        obtain rfl := hO16
        have hFfb := hgsl.inA (by omega)
        have hO17 := fld_at hz hgreps hil hFfb
        obtain ⟨r, hr, hrv⟩ := hO17
        have hO18 := hrv.open
        obtain ⟨ebs, els, efs, rfl, _⟩ := hO18
        have hkm : b.fields[i] ∈ b.fields := List.getElem_mem _
        have hh := hz.self
        have hb1 := addC_le p a.fields (nkep b.fields a.fields) b.fields (i + 1)
        rw [addC_take p a.fields _ hil] at hb1
        have hnk := nkep_take a.fields hil
        have hnl := nkep_le a.fields (b.fields.take i)
        rw [List.length_take] at hnl
        have hnl2 := nkep_le b.fields a.fields
        have hSl := hsh.1
        rw [List.length_append, List.length_append] at hSl
        refine wp_skip ?_
        refine wp_seq ?_
        refine wp_block ?_
        refine wp_seq ?_
        refine wp_region_lit ?_
        refine s_val rfl rfl (v_ia Try.underlying31 sz77 rfl hs90 hs92 (by omega) (by omega)) ?_
        refine s_val rfl rfl (v_load rfl rfl Try.underlying77 rfl sz77 hr rfl) ?_
        refine s_alloc cx z77 rfl rfl rfl ?_; intro b20 w cx hb20 hw20
        refine s_storeAllG cx 0 rfl rfl rfl rfl rfl rfl sz77 rfl (rowF_one hrv) ?_; intro w cx hg20
        replace cx := cx.set0
        replace hh := hh.trans (Fz.newSet cx hb20 hw20 hg20)
        replace hrv := (Fz.newSet cx hb20 hw20 hg20).rep hrv
        refine wpList_nil ?_
        refine wp_seq ?_
        refine wp_region_lit ?_
        refine s_val rfl rfl (v_load rfl hs6 Try.underlying33 rfl sz33 (cx.row 2 rfl) rfl) ?_
        refine s_val rfl rfl (v_fa fa77_0 rfl rfl) ?_
        refine s_val rfl rfl (v_load1 rfl rfl Try.underlying9 rfl (cx.cell 0 rfl rfl)) ?_
        have cx100 := cx
        refine s_fn cx (c80g 48 a _ b.fields[i].1 _ (deep_mono _ _ _ (deep_of_okd _ _ hoa) (by omega)) (by omega) ((hz.trans hh).rep hva).val hfa1 (by
          by_cases h7 : a.sc.kind = 7
          · exact .inl h7
          · exact .inr (List.eq_nil_of_length_eq_zero (hoa.1.fields h7)))) Try.func80 rfl rfl rfl rfl rfl rfl ?_; intro q100 w cx hw100 hp100
        obtain ⟨lu, bb, rfl, hlul, hluo, hlm⟩ := hp100
        have hO19 := RepO.copied cx100 hw100 hlm
        obtain ⟨hbb, hlu⟩ := hO19
        replace hh := hh.trans (Fz.belC cx hw100)
        replace hrv := (Fz.belC cx hw100).rep hrv
        refine s_val rfl rfl (v_move rfl rfl) ?_
        refine s_val rfl rfl (v_extract rfl rfl rfl) ?_
        refine s_val rfl rfl (v_extract rfl rfl rfl) ?_
        refine s_alloc cx z33 rfl rfl rfl ?_; intro b21 w cx hb21 hw21
        refine s_storeAllG cx 0 rfl rfl rfl rfl rfl rfl (by rw [hlul]; exact sz33) (by rw [hlul]; rfl) hluo ?_; intro w cx hg21
        replace cx := cx.set0
        replace hh := hh.trans (Fz.newSet cx hb21 hw21 hg21)
        replace hrv := (Fz.newSet cx hb21 hw21 hg21).rep hrv
        replace hlu := (Fz.newSet cx hb21 hw21 hg21).repO hlu
        refine s_val rfl rfl (v_assign rfl rfl) ?_
        refine wpList_nil ?_
        refine wp_seq ?_
        refine wp_region_lit ?_
        refine s_val rfl rfl (v_move rfl rfl) ?_
        refine s_val rfl rfl (v_not rfl rfl) ?_
        refine wpList_nil ?_
        refine c_split rfl (fun hc104 => ?_) (fun hc104 => ?_)
        · skip
          skip
          have hc105 : (hasF b.fields[i].1 a.fields).isSome = false := by rw [← hbb]; simpa using hc104
          rw [if_neg (by rw [hc105]; exact Bool.false_ne_true), List.length_append, List.length_singleton] at hb1
          rw [if_neg (by rw [hc105]; exact Bool.false_ne_true)] at hnk
          refine wp_seq ?_
          refine w_ord cx (cx.pick1 1 rfl) mixed [(0, 105), (1, 106), (2, 107), (3, 108), (6, 111), (7, 112), (8, 113)] #[true, true, true, true, false, false, true, true, true, false, false, false, false, false] (by kernel_rfl) (by kernel_rfl) (by kernel_rfl) (by kernel_rfl) ?_
          refine pu_one rfl (wnt_none rfl) (fun w cx => v_move rfl hs0) ?_
          refine pu_one rfl (wnt_none rfl) (fun w cx => v_move rfl hs1) ?_
          refine pu_one rfl (wnt_none rfl) (fun w cx => v_fa fa77_0 rfl rfl) ?_
          refine pu_one rfl (wnt_none rfl) (fun w cx => v_load1 rfl rfl Try.underlying9 rfl (cx.cell 0 rfl rfl)) ?_
          refine pu_one rfl (wnt_none rfl) (fun w cx => v_move rfl hs18) ?_
          refine pu_one rfl (wnt_none rfl) (fun w cx => v_fa fa77_1 rfl rfl) ?_
          refine pu_one rfl (wnt_none rfl) (fun w cx => v_load rfl rfl Try.underlying33 rfl sz33 ((cx.row 0 rfl).tail) rfl) ?_
          refine pu_nil ?_; intro w cx hwD23
          replace hh := hh.trans (Fz.belC cx hwD23)
          replace hrv := (Fz.belC cx hwD23).rep hrv
          refine x_one (i := 4) (by kernel_rfl) rfl ?_
          refine s_fn cx (c82 b.fields[i].1 _) Try.func82 rfl rfl rfl rfl rfl rfl ?_; intro q109 w cx hw109 hp109
          subst hp109
          replace hh := hh.trans (Fz.belC cx hw109)
          replace hrv := (Fz.belC cx hw109).rep hrv
          try replace hr114 := (Fz.belC cx hw109).rep hr114
          refine x_next ⟨.inl (cx.pick1 1 rfl), ?_⟩
          refine x_one (i := 5) (by kernel_rfl) rfl ?_
          have cx110 := cx
          refine s_fn cx (c81 (keyS b.fields[i].1) _ p _ _ F.lt ((hz.trans hh).pth hpp) (by omega)) Try.func81 rfl rfl rfl rfl rfl rfl ?_; intro q110 w cx hw110 hp110
          replace hp110 := hp110.fr cx110 hw110.size
          replace hh := hh.trans (Fz.belC cx hw110)
          replace hrv := (Fz.belC cx hw110).rep hrv
          try replace hr114 := (Fz.belC cx hw110).rep hr114
          refine x_next ⟨.inl (cx.pick1 1 rfl), ?_⟩
          refine x_one (i := 9) (by kernel_rfl) rfl ?_
          have cx114 := cx
          refine s_fn cx (c60 48 (b.fields[i].2) _ _ (deep_mono _ _ _ (deep_of_okd _ _ (hob.2.2.2 _ hkm)) (by omega)) (by omega) hrv.val ((hfb1.field hkm).2)) Try.func60 rfl rfl rfl rfl rfl rfl ?_; intro q114 w cx hw114 hp114
          have hO20 := Made.fr hp114 cx114 hw114
          obtain ⟨cb114, cl114, cf114, rfl, hr114⟩ := hO20
          replace hh := hh.trans (Fz.belC cx hw114)
          replace hrv := (Fz.belC cx hw114).rep hrv
          try replace hp110 := (Fz.belC cx hw114).pth hp110
          refine x_next ⟨.inl (cx.pick1 1 rfl), ?_⟩
          refine x_one (i := 10) (by kernel_rfl) rfl ?_
          have hO21 := hp110.sl
          obtain ⟨pa, pc, rfl⟩ := hO21
          refine s_val rfl rfl (v_build (bd35a2 _ _ _ _ _ _ _ _) rfl rfl) ?_
          refine x_next ⟨.inl (cx.pick1 1 rfl), ?_⟩
          refine x_one (i := 11) (by kernel_rfl) rfl ?_
          refine s_bsl1 cx Try.underlying22 sz35 z35 rfl rfl rfl rfl rfl rfl rfl rfl ?_; intro b116 w cx hb116 hw116
          have hr116 : RowAt w b116 0 (.int .i64 2 :: .slice pa (p ++ [keyS b.fields[i].1]).length pc :: .int .i64 ((nkep b.fields a.fields + (i - nkep a.fields (b.fields.take i)) : Nat) : Int) :: (vrow (zk 0) (.slice none 0 0) (.slice none 0 0) (.slice none 0 0) ++ vrow b.fields[i].2.sc cb114 cl114 cf114)) := cx.row 0 rfl
          replace cx := cx.tl
          replace hh := hh.trans (Fz.belC cx hw116)
          replace hr114 := (Fz.belC cx hw116).rep hr114
          replace hp110 := (Fz.belC cx hw116).pth hp110
          refine x_next ⟨.inl (cx.pick1 1 rfl), ?_⟩
          refine x_one (i := 12) (by kernel_rfl) rfl ?_
          have hcn : chA (F w _ _) w (⟨2, p ++ [keyS b.fields[i].1], ((nkep b.fields a.fields + (i - nkep a.fields (b.fields.take i)) : Nat) : Int), nulV, b.fields[i].2⟩ : Ch) (.int .i64 2 :: .slice pa (p ++ [keyS b.fields[i].1]).length pc :: .int .i64 ((nkep b.fields a.fields + (i - nkep a.fields (b.fields.take i)) : Nat) : Int) :: (vrow (zk 0) (.slice none 0 0) (.slice none 0 0) (.slice none 0 0) ++ vrow b.fields[i].2.sc cb114 cl114 cf114)) := ⟨_, _, _, rfl, hp110, rep_nul, hr114⟩
          refine s_appendG (m := 1) cx ei35 Try.underlying22 rfl rfl rfl rfl rfl hr116 rfl (chA.one _ _ hcn) (by omega) ?_; intro v117 w cx hgr117 hnw117
          replace hh := hh.trans (Fz.appC cx hgr117 hnw117)
          replace hcn := (Fz.appC cx hgr117 hnw117).ch1 hcn
          refine x_next ⟨.inr (by kernel_rfl), ?_⟩
          refine x_one (i := 13) (by kernel_rfl) rfl ?_
          refine s_val rfl rfl (v_assign rfl rfl) ?_
          refine x_next ⟨.inr (by kernel_rfl), ?_⟩
          refine x_done (by kernel_rfl) ?_
          refine wp_region_lit ?_
          refine s_val rfl rfl (v_move rfl hs18) ?_
          refine s_val rfl rfl (v_addQ rfl rfl rfl (r := ((nkep b.fields a.fields + (i + 1 - nkep a.fields (b.fields.take (i + 1))) : Nat) : Int)) (by omega) (by omega) (by omega)) ?_
          refine s_val rfl rfl (v_assign rfl rfl) ?_
          refine wpList_nil ?_
          refine wp_region_lit ?_
          refine s_val rfl rfl (v_add rfl hs92 rfl (by omega) (by omega)) ?_
          refine s_val rfl rfl (v_move rfl rfl) ?_
          refine wpList_nil ?_
          refine ⟨gk19 - 1, _, by omega, rfl, i + 1, v117, S ++ [⟨2, p ++ [keyS b.fields[i].1], ((nkep b.fields a.fields + (i - nkep a.fields (b.fields.take i)) : Nat) : Int), nulV, b.fields[i].2⟩], rs ++ [_], by omega, rfl, hs1, hs6, hs7, rfl, hs90, hs91, rfl, (hsh.snoc _).cast (by rw [addC_take _ _ _ hil, if_neg (by rw [hc105]; exact Bool.false_ne_true), List.append_assoc]), LpC.of ?_ ?_ cx.tl.tl (hz.trans (hh.trans (Fz.tl.trans Fz.tl))) (Rws.append ((hh.trans (Fz.tl.trans Fz.tl)).chs hcf) ⟨(Fz.tl.trans Fz.tl).ch1 hcn, trivial⟩)⟩
          · simp only [List.length_append, List.length_singleton]; omega
          · simp
        · skip
          skip
          have hc105 : (hasF b.fields[i].1 a.fields).isSome = true := by rw [← hbb]; simpa using hc104
          rw [if_pos hc105] at hb1 hnk
          refine wp_skip ?_
          refine wp_region_lit ?_
          refine s_val rfl rfl (v_add rfl hs92 rfl (by omega) (by omega)) ?_
          refine s_val rfl rfl (v_move rfl rfl) ?_
          refine wpList_nil ?_
          refine ⟨gk19 - 1, _, by omega, rfl, i + 1, x, S, rs, by omega, hs0, hs1, hs6, hs7, (hs18.trans (by congr 2; omega)), hs90, hs91, rfl, hsh.cast (by rw [addC_take _ _ _ hil, if_pos hc105, List.append_nil]), LpC.of rfl rfl cx.tl.tl (hz.trans (hh.trans (Fz.tl.trans Fz.tl))) ((hh.trans (Fz.tl.trans Fz.tl)).chs hcf)⟩
      · skip
        try simp only [Bool.and_eq_true, Bool.or_eq_true, Bool.and_eq_false_iff, Bool.or_eq_false_iff, Bool.not_eq_true', Bool.not_eq_false', decide_eq_true_eq, decide_eq_false_iff_not, beq_iff_eq, beq_eq_false_iff_ne, bne_iff_ne, bne_eq_false_iff_eq, ne_eq, Classical.not_not] at hc93
        refine wp_exit ?_
        refine wp_seq ?_
        refine wp_region_lit ?_
        refine s_val rfl rfl (v_move rfl hs0) ?_
        refine s_val rfl rfl (v_assign rfl rfl) ?_
        refine wpList_nil ?_
        refine wp_ret ?_
        refine ret_tmp Try.results96 rfl ?_
        have hib : i = b.fields.length := by omega
        subst hib
        rw [List.take_of_length_le (Nat.le_refl _)] at hsh
        exact ⟨S, rs, hsh, (LpC.of rfl rfl cx hz hcf).drop 2⟩
end Go.Proofs.Ytmkihcdcgkdilaa
end
section
namespace Go.Proofs.Ytmkihcdcgkdilaa
open Go Go.Dk Go.RowKit
set_option linter.unusedSimpArgs false
set_option linter.unusedVariables false
attribute [local irreducible] Go.wpList Go.Code.wp Go.bodyPost Go.wpStill Go.wpQuiet
theorem v_minQ {P : Program} {o : Oper} {w : World} {ρ : Operand → Value} {t t' : TypeId} {x y : Operand} {p q r : Int} (ho : o.op = .call { callee := .builtin .min, args := #[x, y], argTypes := #[t, t'] }) (hx : ρ x = .int .i64 p) (hy : ρ y = .int .i64 q) (hr : r = min p q) : (execOp ρ o).run P w = .ok (.value (.int .i64 r)) w := by
  subst hr
  unfold execOp
  rw [ho]
  have e : (if q < p then q else p) = min p q := by rw [Int.min_def]; split <;> split <;> omega
  simp [resolve, invoke, builtin, hx, hy, run_min_int2, e]
theorem sub_two {w : World} {g i : Nat} {l : List Value} {a b : Value} (h1 : l[i]? = some a) (h2 : l[i + 1]? = some b) (hr : RowAt w g 0 l) : RowAt w g (0 + i) [a, b] := fun j x hj => by
  cases j with
  | zero =>
    obtain rfl : a = x := by simpa using hj
    exact hr i _ h1
  | succ j =>
    cases j with
    | zero =>
      obtain rfl : b = x := by simpa using hj
      have := hr (i + 1) _ h2
      rwa [show 0 + (i + 1) = 0 + i + (0 + 1) by omega] at this
    | succ j => simp at hj

set_option maxRecDepth 10000 in
set_option maxHeartbeats 6400000 in
theorem c97 (E : V → V → Bool) (hE : ∀ x y, E x y = true ↔ canon x = canon y) (d : Nat) (ih : C65 E d) (wb : World) (L : List (Nat × Obj)) (R : List Row) (v : Value) (n : Nat) (cs : List Value) (p : List Stp) (ps : Value) (a b : V) (ra rb : List Value) (w0 : World) : Cxr wb w0 L (⟨35, 29, v, n, cs⟩ :: R) → PthA (F w0 L (⟨35, 29, v, n, cs⟩ :: R)) w0 ps p → RepV (F w0 L (⟨35, 29, v, n, cs⟩ :: R)) w0 a ra → RepV (F w0 L (⟨35, 29, v, n, cs⟩ :: R)) w0 b rb → okd (d + 1) a → okd (d + 1) b → Fine a → Fine b → Nar (d + 1) a b → p.length + (d + 1) ≤ 100 → (d + 1) ≤ 48 → n + (lstC (btw E d) p a.list b.list (common E a.list b.list ++ [(a.list.length, b.list.length)]) 0 0).length ≤ 1048576 → Ret Try.prog 97 [v, ps, .agg ra.toArray, .agg rb.toArray] w0 (BtP wb w0 L R v n cs (lstC (btw E d) p a.list b.list (common E a.list b.list ++ [(a.list.length, b.list.length)]) 0 0)) := by
  intro cx hpp hva hvb hoa hob hfa1 hfb1 hnar hpd hd48 hnT
  have hO1 : ∃ PP, PP = (common E a.list b.list ++ [(a.list.length, b.list.length)]) := ⟨_, rfl⟩
  obtain ⟨PP, hPP⟩ := hO1
  have hinc := inc_common E a.list b.list
  rw [← hPP] at hnT hinc ⊢
  have hPlen := common_few E a.list b.list
  have hO2 := id (RepV.open hva)
  obtain ⟨abs, als, afs, rfl, _, hla, _⟩ := hO2
  have hO3 := id (RepV.open hvb)
  obtain ⟨bbs, bls, bfs, rfl, _, hlb, _⟩ := hO3
  have hO4 := hla.sl
  obtain ⟨a1, c1, rfl⟩ := hO4
  have hO5 := hlb.sl
  obtain ⟨a2, c2, rfl⟩ := hO5
  have hna := hnar.1
  have hnb := hnar.2.1
  have hPl0 : PP.length ≤ 6001 := by rw [hPP, List.length_append, List.length_singleton]; omega
  refine ret_enter Try.func97 rfl Try.ntmps97 rfl ?_
  skip
  refine wp_seq ?_
  refine wp_region_lit ?_
  refine s_box cx rfl rfl rfl rfl rfl ?_; intro b6 w cx hb6 hw6
  refine s_box cx rfl rfl rfl rfl rfl ?_; intro b7 w cx hb7 hw7
  refine s_val rfl rfl (v_assign rfl rfl) ?_
  refine wpList_nil ?_
  refine wp_seq ?_
  refine wp_region_lit ?_
  have hz : Fz w0 L (⟨35, 29, v, n, cs⟩ :: R) w ((b7, .cells (vrow b.sc bbs (.slice a2 b.list.length c2) bfs).toArray 33) :: (b6, .cells (vrow a.sc abs (.slice a1 a.list.length c1) afs).toArray 33) :: L) (⟨35, 29, v, n, cs⟩ :: R) := (Fz.new hb6 hw6).trans (Fz.new hb7 hw7)
  refine s_val rfl rfl (v_assign rfl rfl) ?_
  refine s_val rfl rfl (v_assign rfl rfl) ?_
  refine wpList_nil ?_
  refine wp_seq ?_
  refine w_cut (fun f w1 => ∃ (g c31 : Nat), f 0 = v ∧ f 1 = ps ∧ f 6 = .pointer (some ⟨b6, 0, none⟩) ∧ f 7 = .pointer (some ⟨b7, 0, none⟩) ∧ f 9 = .int .i64 0 ∧ f 10 = .int .i64 0 ∧ f 31 = .slice (some ⟨g, 0, none⟩) PP.length c31 ∧ f 32 = .int .i64 (PP.length : Nat) ∧ f 33 = .int .i64 0 ∧ Cxr wb w1 ((b7, .cells (vrow b.sc bbs (.slice a2 b.list.length c2) bfs).toArray 33) :: (b6, .cells (vrow a.sc abs (.slice a1 a.list.length c1) afs).toArray 33) :: L) (⟨35, 29, v, n, cs⟩ :: R) ∧ Fz w0 L (⟨35, 29, v, n, cs⟩ :: R) w1 ((b7, .cells (vrow b.sc bbs (.slice a2 b.list.length c2) bfs).toArray 33) :: (b6, .cells (vrow a.sc abs (.slice a1 a.list.length c1) afs).toArray 33) :: L) (⟨35, 29, v, n, cs⟩ :: R) ∧ F w1 ((b7, .cells (vrow b.sc bbs (.slice a2 b.list.length c2) bfs).toArray 33) :: (b6, .cells (vrow a.sc abs (.slice a1 a.list.length c1) afs).toArray 33) :: L) (⟨35, 29, v, n, cs⟩ :: R) g ∧ RowAt w1 g 0 (PP.flatMap qrow)) ?_ ?_
  · skip
    refine w_ord cx (cx.pick2 1 0 rfl rfl rfl) mixed [(0, 18), (1, 19), (2, 20), (3, 21), (5, 23), (6, 24), (7, 25), (8, 26), (9, 27), (10, 28), (11, 29), (15, 33)] #[true, true, true, true, false, true, true, true, true, true, true, true, false, false, false, true] (by kernel_rfl) (by kernel_rfl) (by kernel_rfl) (by kernel_rfl) ?_
    refine pu_one rfl (wnt_none rfl) (fun w cx => v_fa fa33_6 rfl rfl) ?_
    refine pu_one rfl (wnt_none rfl) (fun w cx => v_load1 rfl rfl Try.underlying30 rfl (cx.cell 0 rfl rfl)) ?_
    refine pu_one rfl (wnt_none rfl) (fun w cx => v_fa fa33_6 rfl rfl) ?_
    refine pu_one rfl (wnt_none rfl) (fun w cx => v_load1 rfl rfl Try.underlying30 rfl (cx.cell 1 rfl rfl)) ?_
    refine pu_one rfl (wnt_none rfl) (fun w cx => v_fa fa33_6 rfl rfl) ?_
    refine pu_one rfl (wnt_none rfl) (fun w cx => v_load1 rfl rfl Try.underlying30 rfl (cx.cell 0 rfl rfl)) ?_
    refine pu_one rfl (wnt_none rfl) (fun w cx => v_lenSlice rfl rfl Try.underlying30) ?_
    refine pu_one rfl (wnt_none rfl) (fun w cx => v_fa fa33_6 rfl rfl) ?_
    refine pu_one rfl (wnt_none rfl) (fun w cx => v_load1 rfl rfl Try.underlying30 rfl (cx.cell 1 rfl rfl)) ?_
    refine pu_one rfl (wnt_none rfl) (fun w cx => v_lenSlice rfl rfl Try.underlying30) ?_
    refine pu_one rfl (wnt_none rfl) (fun w cx => v_build (bd43 _ _) rfl rfl) ?_
    refine pu_one rfl (wnt_none rfl) (fun w cx => v_move rfl rfl) ?_
    refine pu_nil ?_; intro w cx hwD2
    replace hz := hz.trans (Fz.belC cx hwD2)
    refine x_two (i := 4) (j := 12) (by kernel_rfl) rfl rfl ?_ ?_
    · skip
      refine s_fn cx (c25 E hE a.list b.list _ _ _ (RepL.mono F.lt (fun _ _ => rfl) (hz.repL hla)) (RepL.mono F.lt (fun _ _ => rfl) (hz.repL hlb)) (fun x hx => ⟨okd_mono _ _ _ (hoa.2.2.1 _ hx) (by omega), hfa1.elem hx⟩) (fun x hx => ⟨okd_mono _ _ _ (hob.2.2.1 _ hx) (by omega), hfb1.elem hx⟩) hnar.1 hnar.2.1 hnar.2.2.1) Try.func25 rfl rfl rfl rfl rfl rfl ?_; intro q22 w cx2 hw22 hp22
      replace hz := hz.trans (Fz.adopt hw22 hp22)
      try replace hr30 := hr30.up hw22
      have hO6 := own_row hp22
      obtain ⟨ap, cp, rfl, hrp⟩ := hO6
      replace cx := cx.adopt hw22 hp22
      clear cx2
      refine x_next ⟨.inl (cx.pick2 1 0 rfl rfl rfl), ?_⟩
      refine x_one (i := 12) (by kernel_rfl) rfl ?_
      refine s_bsl1 cx Try.underlying41 sz43 z43 rfl rfl rfl rfl rfl rfl rfl rfl ?_; intro b30 w cx hb30 hw30
      have hr30 : RowAt w b30 0 [.int .i64 (a.list.length : Int), .int .i64 (b.list.length : Int)] := cx.row 0 rfl
      replace cx := cx.tl
      replace hz := hz.trans (Fz.belC cx hw30)
      refine x_next ⟨.inl (cx.pick2 1 0 rfl rfl rfl), ?_⟩
      refine x_one (i := 13) (by kernel_rfl) rfl ?_
      refine s_appendG (m := 1) cx ei43 Try.underlying41 rfl rfl rfl rfl rfl hr30 rfl rfl (by omega) ?_; intro v31 w cx hgr31 hnw31
      replace hz := hz.trans (Fz.appC cx hgr31 hnw31)
      have hO7 := cx.ownRow
      obtain ⟨a31, c31, rfl, h31⟩ := hO7
      have hO8 := h31 (by omega)
      obtain ⟨g, rfl, hrowB⟩ := hO8
      have hFg := F.row1 cx g rfl
      replace hz := hz.trans Fz.tlR
      replace cx := cx.tlR
      have hPl : PP.length = (common E a.list b.list).length + 1 := by rw [hPP, List.length_append, List.length_singleton]
      have hPf : (common E a.list b.list).flatMap qrow ++ [.int .i64 (a.list.length : Int), .int .i64 (b.list.length : Int)] = PP.flatMap qrow := by rw [hPP, qflat_snoc]; rfl
      rw [hPf] at hrowB
      rw [← hPl]
      refine x_next ⟨.inl (cx.pick2 1 0 rfl rfl rfl), ?_⟩
      refine x_one (i := 14) (by kernel_rfl) rfl ?_
      refine s_val rfl rfl (v_lenSlice rfl rfl Try.underlying41) ?_
      refine x_next ⟨.inl (cx.pick2 1 0 rfl rfl rfl), ?_⟩
      refine x_done (by kernel_rfl) ?_
      exact ⟨_, rfl, g, c31, rfl, rfl, rfl, rfl, rfl, rfl, rfl, (by rw [hPl]; rfl), rfl, cx, hz, hFg, hrowB⟩
    · skip
      refine s_bsl1 cx Try.underlying41 sz43 z43 rfl rfl rfl rfl rfl rfl rfl rfl ?_; intro b30 w cx hb30 hw30
      have hr30 : RowAt w b30 0 [.int .i64 (a.list.length : Int), .int .i64 (b.list.length : Int)] := cx.row 0 rfl
      replace cx := cx.tl
      replace hz := hz.trans (Fz.belC cx hw30)
      refine x_next ⟨.inl (cx.pick2 1 0 rfl rfl rfl), ?_⟩
      refine x_one (i := 4) (by kernel_rfl) rfl ?_
      refine s_fn cx (c25 E hE a.list b.list _ _ _ (RepL.mono F.lt (fun _ _ => rfl) (hz.repL hla)) (RepL.mono F.lt (fun _ _ => rfl) (hz.repL hlb)) (fun x hx => ⟨okd_mono _ _ _ (hoa.2.2.1 _ hx) (by omega), hfa1.elem hx⟩) (fun x hx => ⟨okd_mono _ _ _ (hob.2.2.1 _ hx) (by omega), hfb1.elem hx⟩) hnar.1 hnar.2.1 hnar.2.2.1) Try.func25 rfl rfl rfl rfl rfl rfl ?_; intro q22 w cx2 hw22 hp22
      replace hz := hz.trans (Fz.adopt hw22 hp22)
      try replace hr30 := hr30.up hw22
      have hO9 := own_row hp22
      obtain ⟨ap, cp, rfl, hrp⟩ := hO9
      replace cx := cx.adopt hw22 hp22
      clear cx2
      refine x_next ⟨.inl (cx.pick2 1 0 rfl rfl rfl), ?_⟩
      refine x_one (i := 13) (by kernel_rfl) rfl ?_
      refine s_appendG (m := 1) cx ei43 Try.underlying41 rfl rfl rfl rfl rfl hr30 rfl rfl (by omega) ?_; intro v31 w cx hgr31 hnw31
      replace hz := hz.trans (Fz.appC cx hgr31 hnw31)
      have hO10 := cx.ownRow
      obtain ⟨a31, c31, rfl, h31⟩ := hO10
      have hO11 := h31 (by omega)
      obtain ⟨g, rfl, hrowB⟩ := hO11
      have hFg := F.row1 cx g rfl
      replace hz := hz.trans Fz.tlR
      replace cx := cx.tlR
      have hPl : PP.length = (common E a.list b.list).length + 1 := by rw [hPP, List.length_append, List.length_singleton]
      have hPf : (common E a.list b.list).flatMap qrow ++ [.int .i64 (a.list.length : Int), .int .i64 (b.list.length : Int)] = PP.flatMap qrow := by rw [hPP, qflat_snoc]; rfl
      rw [hPf] at hrowB
      rw [← hPl]
      refine x_next ⟨.inl (cx.pick2 1 0 rfl rfl rfl), ?_⟩
      refine x_one (i := 14) (by kernel_rfl) rfl ?_
      refine s_val rfl rfl (v_lenSlice rfl rfl Try.underlying41) ?_
      refine x_next ⟨.inl (cx.pick2 1 0 rfl rfl rfl), ?_⟩
      refine x_done (by kernel_rfl) ?_
      exact ⟨_, rfl, g, c31, rfl, rfl, rfl, rfl, rfl, rfl, rfl, (by rw [hPl]; rfl), rfl, cx, hz, hFg, hrowB⟩
  intro f w hJ
  obtain ⟨g, c31, hs0, hs1, hs6, hs7, hs9, hs10, hs31, hs32, hs33, cx, hzB, hFg, hrowB⟩ := hJ
  replace hpp := hzB.pth hpp
  replace hla := hzB.repL hla
  replace hlb := hzB.repL hlb
  have hO12 := id hla
  obtain ⟨b1, o1, hsl1, hreps1⟩ := hO12
  have hO13 := hsl1.form
  obtain ⟨a1', c1', e1, hfa1'⟩ := hO13
  cases e1
  have hO14 := id hlb
  obtain ⟨b2, o2, hsl2, hreps2⟩ := hO14
  have hO15 := hsl2.form
  obtain ⟨a2', c2', e2, hfa2'⟩ := hO15
  cases e2
  have hO16 : ∃ y, y = w := ⟨_, rfl⟩
  obtain ⟨wB, hwB⟩ := hO16
  subst hwB
  refine wp_block ?_
  refine w_loop (fun k f w1 => ∃ (t : Nat) (z : Value) (S : List Ch) (rs : List (List Value)), k + t = PP.length ∧ f 0 = z ∧ f 1 = ps ∧ f 6 = .pointer (some ⟨b6, 0, none⟩) ∧ f 7 = .pointer (some ⟨b7, 0, none⟩) ∧ f 31 = .slice (some ⟨g, 0, none⟩) PP.length c31 ∧ f 32 = .int .i64 (PP.length : Nat) ∧ f 33 = .int .i64 (t : Nat) ∧ f 9 = .int .i64 ((aft (PP.take t) 0 0).1 : Nat) ∧ f 10 = .int .i64 ((aft (PP.take t) 0 0).2 : Nat) ∧ Sho n (lstC (btw E d) p a.list b.list (PP.take t) 0 0) S ∧ LpC wb wB ((b7, .cells (vrow b.sc bbs (.slice a2 b.list.length c2) bfs).toArray 33) :: (b6, .cells (vrow a.sc abs (.slice a1 a.list.length c1) afs).toArray 33) :: L) (⟨35, 29, v, n, cs⟩ :: R) ((b7, .cells (vrow b.sc bbs (.slice a2 b.list.length c2) bfs).toArray 33) :: (b6, .cells (vrow a.sc abs (.slice a1 a.list.length c1) afs).toArray 33) :: L) R n cs S z rs w1) (PP.length) ?_ ?_
  · skip
    exact ⟨0, v, [], [], by omega, hs0, hs1, hs6, hs7, hs31, hs32, hs33, hs9, hs10, (Sho.nil n).cast (by simp [lstC]), LpC.zero cx hzB.self⟩
  intro gk3 f w hJ
  obtain ⟨t, z, S, rs, hkt, hs0, hs1, hs6, hs7, hs31, hs32, hs33, hs9, hs10, hsh, cx, hz, hcf⟩ := hJ
  refine wp_seq ?_
  refine wp_region_lit ?_
  refine s_val rfl rfl (v_cmp rfl hs33 hs32 rfl) ?_
  refine wpList_nil ?_
  refine wp_seq ?_
  refine c_split rfl (fun hc34 => ?_) (fun hc34 => ?_)
  · skip
    try simp only [Bool.and_eq_true, Bool.or_eq_true, Bool.and_eq_false_iff, Bool.or_eq_false_iff, Bool.not_eq_true', Bool.not_eq_false', decide_eq_true_eq, decide_eq_false_iff_not, beq_iff_eq, beq_eq_false_iff_ne, bne_iff_ne, bne_eq_false_iff_eq, ne_eq, Classical.not_not] at hc34
    have htl : t < PP.length := by omega
    have hO17 : ∃ i j, aft (PP.take t) 0 0 = (i, j) := ⟨_, _, rfl⟩
    obtain ⟨i, j, hij⟩ := hO17
    have hO18 : ∃ x y, PP[t] = (x, y) := ⟨_, _, rfl⟩
    obtain ⟨x, y, hxy⟩ := hO18
    have hin := inc_aft PP 0 0 t hinc htl
    have hpt : PP[t]? = some (x, y) := by rw [List.getElem?_eq_getElem htl, hxy]
    rw [hij, hxy] at hin
    rw [hij] at hs9 hs10
    obtain ⟨hix, hjy, hxa, hyb⟩ := hin
    dsimp only at hix hjy hxa hyb hs9 hs10
    have hO19 : ∃ M, M = min (x - i) (y - j) := ⟨_, rfl⟩
    obtain ⟨M, hM⟩ := hO19
    have hbl := lstC_le (btw E d) p a.list b.list PP (t + 1)
    have hlt := lstC_take (btw E d) p a.list b.list htl
    rw [hij, hxy] at hlt
    dsimp only at hlt
    rw [gapC_M _ _ _ _ _ _ _ _ M hM] at hlt
    rw [hlt] at hbl
    simp only [List.length_append, gp2_len, gp3_len] at hbl
    have hrg := hz.row hrowB hFg
    have hq1 := sub_two (qflat_at hpt).1 (qflat_at hpt).2 hrg
    refine wp_skip ?_
    refine wp_seq ?_
    refine wp_block ?_
    refine wp_seq ?_
    refine wp_region_lit ?_
    refine s_val rfl rfl (v_ia Try.underlying41 sz43 rfl hs31 hs33 (by omega) (by omega)) ?_
    refine s_val rfl rfl (v_load rfl rfl Try.underlying43 rfl sz43 hq1 rfl) ?_
    refine s_alloc cx z43 rfl rfl rfl ?_; intro b12 w cx hb12 hw12
    refine s_storeAllG cx 0 rfl rfl rfl rfl rfl rfl sz43 rfl rfl ?_; intro w cx hg12
    replace cx := cx.set0
    have hzs := Fz.newSet cx hb12 hw12 hg12
    replace hcf := hzs.chs hcf
    replace hz := hz.trans hzs
    refine wpList_nil ?_
    refine wp_seq ?_
    refine w_still cx mixed (by kernel_rfl) ?_; intro w cx hwD5
    skip
    refine t_val rfl rfl (v_iaR (r := 0) Try.underlying43 sz3 rfl rfl rfl (by omega) (by omega) rfl) ?_
    refine t_val rfl rfl (v_load1 rfl rfl Try.underlying3 rfl (cx.cell 0 rfl rfl)) ?_
    refine t_val rfl rfl (v_move rfl hs9) ?_
    refine t_val rfl rfl (v_subQ rfl rfl rfl (r := ((x - i : Nat) : Int)) (by omega) (by omega) (by omega)) ?_
    refine t_val rfl rfl (v_iaR (r := 1) Try.underlying43 sz3 rfl rfl rfl (by omega) (by omega) rfl) ?_
    refine t_val rfl rfl (v_load1 rfl rfl Try.underlying3 rfl (cx.cell 0 rfl rfl)) ?_
    refine t_val rfl rfl (v_move rfl hs10) ?_
    refine t_val rfl rfl (v_subQ rfl rfl rfl (r := ((y - j : Nat) : Int)) (by omega) (by omega) (by omega)) ?_
    refine t_val rfl rfl (v_assign rfl rfl) ?_
    refine t_val rfl rfl (v_assign rfl rfl) ?_
    refine t_nil ?_
    refine wp_seq ?_
    refine wp_seq ?_
    refine wp_region_lit ?_
    replace hz := hz.trans (Fz.belC cx hwD5)
    replace hcf := (Fz.belC cx hwD5).chs hcf
    refine s_val rfl rfl (v_move rfl rfl) ?_
    refine s_val rfl rfl (v_move rfl rfl) ?_
    refine s_val rfl rfl (v_minQ rfl rfl rfl (r := ((M : Nat) : Int)) (by omega)) ?_
    refine s_val rfl rfl (v_move rfl rfl) ?_
    refine wpList_nil ?_
    refine wp_block ?_
    refine w_loop (fun k f w1 => ∃ (s : Nat) (z : Value) (S : List Ch) (rs : List (List Value)), k + s = M ∧ f 0 = z ∧ f 1 = ps ∧ f 6 = .pointer (some ⟨b6, 0, none⟩) ∧ f 7 = .pointer (some ⟨b7, 0, none⟩) ∧ f 31 = .slice (some ⟨g, 0, none⟩) PP.length c31 ∧ f 32 = .int .i64 (PP.length : Nat) ∧ f 33 = .int .i64 (t : Nat) ∧ f 9 = .int .i64 (i : Nat) ∧ f 10 = .int .i64 (j : Nat) ∧ f 12 = .pointer (some ⟨b12, 0, none⟩) ∧ f 13 = .int .i64 ((x - i : Nat) : Int) ∧ f 14 = .int .i64 ((y - j : Nat) : Int) ∧ f 47 = .int .i64 (M : Nat) ∧ f 48 = .int .i64 (s : Nat) ∧ Sho n ((lstC (btw E d) p a.list b.list (PP.take t) 0 0) ++ gp1 (btw E d) p a.list b.list i j s) S ∧ LpC wb wB ((b7, .cells (vrow b.sc bbs (.slice a2 b.list.length c2) bfs).toArray 33) :: (b6, .cells (vrow a.sc abs (.slice a1 a.list.length c1) afs).toArray 33) :: L) (⟨35, 29, v, n, cs⟩ :: R) ((b12, .cells ([.int .i64 (x : Int), .int .i64 (y : Int)] : List Value).toArray 43) :: ((b7, .cells (vrow b.sc bbs (.slice a2 b.list.length c2) bfs).toArray 33) :: (b6, .cells (vrow a.sc abs (.slice a1 a.list.length c1) afs).toArray 33) :: L)) R n cs S z rs w1) (M) ?_ ?_
    · skip
      exact ⟨0, z, S, rs, by omega, hs0, hs1, hs6, hs7, hs31, hs32, hs33, hs9, hs10, rfl, rfl, rfl, rfl, rfl, hsh.cast (by rw [gp1_zero, List.append_nil]), LpC.of rfl rfl cx hz hcf⟩
    intro gk7 f w hJ
    obtain ⟨s, z, S, rs, hks, hs0, hs1, hs6, hs7, hs31, hs32, hs33, hs9, hs10, hs12, hs13, hs14, hs47, hs48, hsh, cx, hz, hcf⟩ := hJ
    refine wp_seq ?_
    refine wp_region_lit ?_
    refine s_val rfl rfl (v_cmp rfl hs48 hs47 rfl) ?_
    refine wpList_nil ?_
    refine wp_seq ?_
    refine c_split rfl (fun hc49 => ?_) (fun hc49 => ?_)
    · skip
      try simp only [Bool.and_eq_true, Bool.or_eq_true, Bool.and_eq_false_iff, Bool.or_eq_false_iff, Bool.not_eq_true', Bool.not_eq_false', decide_eq_true_eq, decide_eq_false_iff_not, beq_iff_eq, beq_eq_false_iff_ne, bne_iff_ne, bne_eq_false_iff_eq, ne_eq, Classical.not_not] at hc49
      have hsM : s < M := by omega
      have hgl := gp1_le (btw E d) p a.list b.list i j (show s + 1 ≤ M by omega)
      have hO20 := hfa1' (by omega)
      obtain rfl := hO20
      have hF1 := hsl1.inA (by omega)
      have hO21 := lst_at hz hreps1 (i := i + s) (by omega) hF1
      obtain ⟨r1, hr1, hv1⟩ := hO21
      replace hF1 := hz.up _ hF1
      have hge1 := getD_at (l := a.list) (i := i + s) (by omega)
      have hO22 := hfa2' (by omega)
      obtain rfl := hO22
      have hF2 := hsl2.inA (by omega)
      have hO23 := lst_at hz hreps2 (i := j + s) (by omega) hF2
      obtain ⟨r2, hr2, hv2⟩ := hO23
      replace hF2 := hz.up _ hF2
      have hge2 := getD_at (l := b.list) (i := j + s) (by omega)
      rw [gp1_succ, hge1, hge2, List.length_append] at hgl
      have hSl := hsh.1
      rw [List.length_append] at hSl
      have hh := hz.self
      refine wp_skip ?_
      refine wp_seq ?_
      refine wp_block ?_
      refine wp_seq ?_
      refine wp_region_lit ?_
      refine s_val rfl rfl (v_move rfl hs48) ?_
      refine s_val rfl rfl (v_assign rfl rfl) ?_
      refine wpList_nil ?_
      refine w_ordK cx (cx.pick2 1 2 rfl rfl rfl) hh.kp mixed [(0, 51), (1, 52), (2, 53), (3, 54), (4, 55), (7, 58), (8, 59), (9, 60), (10, 61), (11, 62), (12, 63), (13, 64), (14, 65), (15, 66), (16, 67), (17, 68), (18, 69), (19, 70), (20, 71)] #[true, true, true, true, true, false, false, true, true, true, true, true, true, true, true, true, true, true, true, true, true, false, false] (by kernel_rfl) (by kernel_rfl) (by kernel_rfl) (by kernel_rfl) ?_
      refine pu_one rfl (wnt_none rfl) (fun w hS => by obtain ⟨cx, hkS⟩ := hS; exact v_move rfl hs0) ?_
      refine pu_one rfl (wnt_none rfl) (fun w hS => by obtain ⟨cx, hkS⟩ := hS; exact v_move rfl hs1) ?_
      refine pu_one rfl (wnt_none rfl) (fun w hS => by obtain ⟨cx, hkS⟩ := hS; exact v_move rfl hs10) ?_
      refine pu_one rfl (wnt_none rfl) (fun w hS => by obtain ⟨cx, hkS⟩ := hS; exact v_move rfl rfl) ?_
      refine pu_one rfl (wnt_none rfl) (fun w hS => by obtain ⟨cx, hkS⟩ := hS; exact v_addQ rfl rfl rfl (r := ((j + s : Nat) : Int)) (by omega) (by omega) (by omega)) ?_
      refine pu_one rfl (wnt_none rfl) (fun w hS => by obtain ⟨cx, hkS⟩ := hS; exact v_fa fa33_6 rfl hs6) ?_
      refine pu_one rfl (wnt_none rfl) (fun w hS => by obtain ⟨cx, hkS⟩ := hS; exact v_load1 rfl rfl Try.underlying30 rfl (cx.cell 1 rfl rfl)) ?_
      refine pu_one rfl (wnt_none rfl) (fun w hS => by obtain ⟨cx, hkS⟩ := hS; exact v_move rfl hs9) ?_
      refine pu_one rfl (wnt_none rfl) (fun w hS => by obtain ⟨cx, hkS⟩ := hS; exact v_move rfl rfl) ?_
      refine pu_one rfl (wnt_none rfl) (fun w hS => by obtain ⟨cx, hkS⟩ := hS; exact v_addQ rfl rfl rfl (r := ((i + s : Nat) : Int)) (by omega) (by omega) (by omega)) ?_
      refine pu_one rfl (wnt_none rfl) (fun w hS => by obtain ⟨cx, hkS⟩ := hS; exact v_ia Try.underlying30 sz33 rfl rfl rfl (by omega) (by omega)) ?_
      refine pu_one rfl (wnt_none rfl) (fun w hS => by obtain ⟨cx, hkS⟩ := hS; exact v_load rfl rfl Try.underlying33 rfl sz33 (hr1.keep (hkS _ hF1)) hv1.len) ?_
      refine pu_one rfl (wnt_none rfl) (fun w hS => by obtain ⟨cx, hkS⟩ := hS; exact v_fa fa33_6 rfl hs7) ?_
      refine pu_one rfl (wnt_none rfl) (fun w hS => by obtain ⟨cx, hkS⟩ := hS; exact v_load1 rfl rfl Try.underlying30 rfl (cx.cell 0 rfl rfl)) ?_
      refine pu_one rfl (wnt_none rfl) (fun w hS => by obtain ⟨cx, hkS⟩ := hS; exact v_move rfl hs10) ?_
      refine pu_one rfl (wnt_none rfl) (fun w hS => by obtain ⟨cx, hkS⟩ := hS; exact v_move rfl rfl) ?_
      refine pu_one rfl (wnt_none rfl) (fun w hS => by obtain ⟨cx, hkS⟩ := hS; exact v_addQ rfl rfl rfl (r := ((j + s : Nat) : Int)) (by omega) (by omega) (by omega)) ?_
      refine pu_one rfl (wnt_none rfl) (fun w hS => by obtain ⟨cx, hkS⟩ := hS; exact v_ia Try.underlying30 sz33 rfl rfl rfl (by omega) (by omega)) ?_
      refine pu_one rfl (wnt_none rfl) (fun w hS => by obtain ⟨cx, hkS⟩ := hS; exact v_load rfl rfl Try.underlying33 rfl sz33 (hr2.keep (hkS _ hF2)) hv2.len) ?_
      refine pu_nil ?_; intro w cx hwD9 hkS9
      replace hh := hh.trans (Fz.belC cx hwD9)
      replace hv1 := (Fz.belC cx hwD9).rep hv1
      replace hv2 := (Fz.belC cx hwD9).rep hv2
      refine x_one (i := 5) (by kernel_rfl) rfl ?_
      refine s_fn cx (c83 (j + s) _) Try.func83 rfl rfl rfl rfl rfl rfl ?_; intro q56 w cx hw56 hp56
      subst hp56
      replace hh := hh.trans (Fz.belC cx hw56)
      replace hv1 := (Fz.belC cx hw56).rep hv1
      replace hv2 := (Fz.belC cx hw56).rep hv2
      refine x_next ⟨.inl ⟨cx.pick2 1 2 rfl rfl rfl, hh.kp⟩, ?_⟩
      refine x_one (i := 6) (by kernel_rfl) rfl ?_
      have cx57 := cx
      refine s_fn cx (c81 (idxS (j + s)) _ p _ _ F.lt ((hz.trans hh).pth hpp) (by omega)) Try.func81 rfl rfl rfl rfl rfl rfl ?_; intro q57 w cx hw57 hp57
      replace hp57 := hp57.fr cx57 hw57.size
      replace hh := hh.trans (Fz.belC cx hw57)
      replace hv1 := (Fz.belC cx hw57).rep hv1
      replace hv2 := (Fz.belC cx hw57).rep hv2
      refine x_next ⟨.inl ⟨cx.pick2 1 2 rfl rfl rfl, hh.kp⟩, ?_⟩
      refine x_one (i := 21) (by kernel_rfl) rfl ?_
      refine s_callR rfl rfl (runs_fn Try.func65 rfl rfl rfl rfl) (ih wb _ _ z _ _ (p ++ [idxS (j + s)]) _ a.list[i + s] b.list[j + s] _ _ _ cx hp57 hv1 hv2 (hoa.2.2.1 _ (List.getElem_mem _)) (hob.2.2.1 _ (List.getElem_mem _)) (hfa1.elem (List.getElem_mem _)) (hfb1.elem (List.getElem_mem _)) (hnar.elem (List.getElem_mem _) (List.getElem_mem _)) (by rw [List.length_append, List.length_singleton]; omega) (by omega) (by omega)) ?_; intro q72 w hp72
      obtain ⟨S2, rs2, hsh2, cx, hz2, hcf2⟩ := hp72
      replace hh := hh.trans hz2
      refine x_next ⟨.inr (by kernel_rfl), ?_⟩
      refine x_one (i := 22) (by kernel_rfl) rfl ?_
      refine s_val rfl rfl (v_assign rfl rfl) ?_
      refine x_next ⟨.inr (by kernel_rfl), ?_⟩
      refine x_done (by kernel_rfl) ?_
      refine wp_region_lit ?_
      refine s_val rfl rfl (v_addQ rfl hs48 rfl (r := ((s + 1 : Nat) : Int)) (by omega) (by omega) (by omega)) ?_
      refine s_val rfl rfl (v_move rfl rfl) ?_
      refine wpList_nil ?_
      refine ⟨gk7 - 1, _, by omega, rfl, s + 1, q72, S ++ S2, rs ++ rs2, by omega, rfl, hs1, hs6, hs7, hs31, hs32, hs33, hs9, hs10, hs12, hs13, hs14, hs47, rfl, (hsh.append hsh2).cast (by rw [gp1_succ, hge1, hge2, List.append_assoc]), LpC.of ?_ ?_ cx (hz.trans hh) (Rws.append (hh.chs hcf) hcf2)⟩
      · simp only [List.length_append]; omega
      · simp
    · skip
      try simp only [Bool.and_eq_true, Bool.or_eq_true, Bool.and_eq_false_iff, Bool.or_eq_false_iff, Bool.not_eq_true', Bool.not_eq_false', decide_eq_true_eq, decide_eq_false_iff_not, beq_iff_eq, beq_eq_false_iff_ne, bne_iff_ne, bne_eq_false_iff_eq, ne_eq, Classical.not_not] at hc49
      refine wp_exit ?_
      refine wp_seq ?_
      refine wp_seq ?_
      refine wp_region_lit ?_
      refine s_val rfl rfl (v_move rfl hs14) ?_
      refine s_val rfl rfl (v_assign rfl rfl) ?_
      refine wpList_nil ?_
      refine wp_block ?_
      have hsM : M = s := by omega
      subst hsM
      refine w_loop (fun k f w1 => ∃ (s : Nat) (z : Value) (S : List Ch) (rs : List (List Value)), k + s = x - i - (y - j) ∧ f 0 = z ∧ f 1 = ps ∧ f 6 = .pointer (some ⟨b6, 0, none⟩) ∧ f 7 = .pointer (some ⟨b7, 0, none⟩) ∧ f 31 = .slice (some ⟨g, 0, none⟩) PP.length c31 ∧ f 32 = .int .i64 (PP.length : Nat) ∧ f 33 = .int .i64 (t : Nat) ∧ f 9 = .int .i64 (i : Nat) ∧ f 10 = .int .i64 (j : Nat) ∧ f 12 = .pointer (some ⟨b12, 0, none⟩) ∧ f 13 = .int .i64 ((x - i : Nat) : Int) ∧ f 14 = .int .i64 ((y - j : Nat) : Int) ∧ f 16 = .int .i64 ((y - j + s : Nat) : Int) ∧ Sho n ((lstC (btw E d) p a.list b.list (PP.take t) 0 0) ++ gp1 (btw E d) p a.list b.list i j M ++ gp2 p a.list i j M s) S ∧ LpC wb wB ((b7, .cells (vrow b.sc bbs (.slice a2 b.list.length c2) bfs).toArray 33) :: (b6, .cells (vrow a.sc abs (.slice a1 a.list.length c1) afs).toArray 33) :: L) (⟨35, 29, v, n, cs⟩ :: R) ((b12, .cells ([.int .i64 (x : Int), .int .i64 (y : Int)] : List Value).toArray 43) :: ((b7, .cells (vrow b.sc bbs (.slice a2 b.list.length c2) bfs).toArray 33) :: (b6, .cells (vrow a.sc abs (.slice a1 a.list.length c1) afs).toArray 33) :: L)) R n cs S z rs w1) (x - i - (y - j)) ?_ ?_
      · skip
        exact ⟨0, z, S, rs, by omega, hs0, hs1, hs6, hs7, hs31, hs32, hs33, hs9, hs10, hs12, hs13, hs14, rfl, hsh.cast (by rw [gp2_zero, List.append_nil]), LpC.of rfl rfl cx hz hcf⟩
      intro gk12 f w hJ
      obtain ⟨s, z, S, rs, hks, hs0, hs1, hs6, hs7, hs31, hs32, hs33, hs9, hs10, hs12, hs13, hs14, hs16, hsh, cx, hz, hcf⟩ := hJ
      refine wp_seq ?_
      refine wp_seq ?_
      refine wp_region_lit ?_
      refine s_val rfl rfl (v_move rfl hs16) ?_
      refine s_val rfl rfl (v_move rfl hs13) ?_
      refine s_val rfl rfl (v_cmp rfl rfl rfl rfl) ?_
      refine wpList_nil ?_
      refine c_split rfl (fun hc77 => ?_) (fun hc77 => ?_)
      · skip
        try simp only [Bool.and_eq_true, Bool.or_eq_true, Bool.and_eq_false_iff, Bool.or_eq_false_iff, Bool.not_eq_true', Bool.not_eq_false', decide_eq_true_eq, decide_eq_false_iff_not, beq_iff_eq, beq_eq_false_iff_ne, bne_iff_ne, bne_eq_false_iff_eq, ne_eq, Classical.not_not] at hc77
        have hsM : s < x - i - (y - j) := by omega
        have hMy : M = y - j := by omega
        have hO24 := hfa1' (by omega)
        obtain rfl := hO24
        have hF1 := hsl1.inA (by omega)
        have hO25 := lst_at hz hreps1 (i := i + M + s) (by omega) hF1
        obtain ⟨r1, hr1, hv1⟩ := hO25
        replace hF1 := hz.up _ hF1
        have hge1 := getD_at (l := a.list) (i := i + M + s) (by omega)
        have hSl := hsh.1
        simp only [List.length_append, gp2_len] at hSl
        have hh := hz.self
        refine wp_skip ?_
        refine wp_seq ?_
        refine wp_block ?_
        refine w_ordK cx (cx.pick2 1 2 rfl rfl rfl) hh.kp mixed [(0, 80), (1, 81), (2, 82), (3, 83), (4, 84), (7, 87), (8, 88), (9, 89), (10, 90), (11, 91), (12, 92), (13, 93)] #[true, true, true, true, true, false, false, true, true, true, true, true, true, true, false, false, false, false, false] (by kernel_rfl) (by kernel_rfl) (by kernel_rfl) (by kernel_rfl) ?_
        refine pu_one rfl (wnt_none rfl) (fun w hS => by obtain ⟨cx, hkS⟩ := hS; exact v_move rfl hs0) ?_
        refine pu_one rfl (wnt_none rfl) (fun w hS => by obtain ⟨cx, hkS⟩ := hS; exact v_move rfl hs1) ?_
        refine pu_one rfl (wnt_none rfl) (fun w hS => by obtain ⟨cx, hkS⟩ := hS; exact v_move rfl hs10) ?_
        refine pu_one rfl (wnt_none rfl) (fun w hS => by obtain ⟨cx, hkS⟩ := hS; exact v_move rfl hs14) ?_
        refine pu_one rfl (wnt_none rfl) (fun w hS => by obtain ⟨cx, hkS⟩ := hS; exact v_addQ rfl rfl rfl (r := ((j + M : Nat) : Int)) (by omega) (by omega) (by omega)) ?_
        refine pu_one rfl (wnt_none rfl) (fun w hS => by obtain ⟨cx, hkS⟩ := hS; exact v_fa fa33_6 rfl hs6) ?_
        refine pu_one rfl (wnt_none rfl) (fun w hS => by obtain ⟨cx, hkS⟩ := hS; exact v_load1 rfl rfl Try.underlying30 rfl (cx.cell 1 rfl rfl)) ?_
        refine pu_one rfl (wnt_none rfl) (fun w hS => by obtain ⟨cx, hkS⟩ := hS; exact v_move rfl hs9) ?_
        refine pu_one rfl (wnt_none rfl) (fun w hS => by obtain ⟨cx, hkS⟩ := hS; exact v_move rfl hs16) ?_
        refine pu_one rfl (wnt_none rfl) (fun w hS => by obtain ⟨cx, hkS⟩ := hS; exact v_addQ rfl rfl rfl (r := ((i + M + s : Nat) : Int)) (by omega) (by omega) (by omega)) ?_
        refine pu_one rfl (wnt_none rfl) (fun w hS => by obtain ⟨cx, hkS⟩ := hS; exact v_ia Try.underlying30 sz33 rfl rfl rfl (by omega) (by omega)) ?_
        refine pu_one rfl (wnt_none rfl) (fun w hS => by obtain ⟨cx, hkS⟩ := hS; exact v_load rfl rfl Try.underlying33 rfl sz33 (hr1.keep (hkS _ hF1)) hv1.len) ?_
        refine pu_nil ?_; intro w cx hwD14 hkS14
        replace hh := hh.trans (Fz.belC cx hwD14)
        replace hv1 := (Fz.belC cx hwD14).rep hv1
        refine x_one (i := 5) (by kernel_rfl) rfl ?_
        refine s_fn cx (c83 (j + M) _) Try.func83 rfl rfl rfl rfl rfl rfl ?_; intro q85 w cx hw85 hp85
        subst hp85
        replace hh := hh.trans (Fz.belC cx hw85)
        replace hv1 := (Fz.belC cx hw85).rep hv1
        try replace hr94 := (Fz.belC cx hw85).rep hr94
        refine x_next ⟨.inl ⟨cx.pick2 1 2 rfl rfl rfl, hh.kp⟩, ?_⟩
        refine x_one (i := 6) (by kernel_rfl) rfl ?_
        have cx86 := cx
        refine s_fn cx (c81 (idxS (j + M)) _ p _ _ F.lt ((hz.trans hh).pth hpp) (by omega)) Try.func81 rfl rfl rfl rfl rfl rfl ?_; intro q86 w cx hw86 hp86
        replace hp86 := hp86.fr cx86 hw86.size
        replace hh := hh.trans (Fz.belC cx hw86)
        replace hv1 := (Fz.belC cx hw86).rep hv1
        try replace hr94 := (Fz.belC cx hw86).rep hr94
        refine x_next ⟨.inl ⟨cx.pick2 1 2 rfl rfl rfl, hh.kp⟩, ?_⟩
        refine x_one (i := 14) (by kernel_rfl) rfl ?_
        have cx94 := cx
        refine s_fn cx (c60 48 (a.list[i + M + s]) _ _ (deep_mono _ _ _ (deep_of_okd _ _ (hoa.2.2.1 _ (List.getElem_mem _))) (by omega)) (by omega) hv1.val (hfa1.elem (List.getElem_mem _))) Try.func60 rfl rfl rfl rfl rfl rfl ?_; intro q94 w cx hw94 hp94
        have hO26 := Made.fr hp94 cx94 hw94
        obtain ⟨cb94, cl94, cf94, rfl, hr94⟩ := hO26
        replace hh := hh.trans (Fz.belC cx hw94)
        replace hv1 := (Fz.belC cx hw94).rep hv1
        try replace hp86 := (Fz.belC cx hw94).pth hp86
        refine x_next ⟨.inl ⟨cx.pick2 1 2 rfl rfl rfl, hh.kp⟩, ?_⟩
        refine x_one (i := 15) (by kernel_rfl) rfl ?_
        have hO27 := hp86.sl
        obtain ⟨pa, pc, rfl⟩ := hO27
        refine s_val rfl rfl (v_build (bd35r _ _ _ _ _ _ _) rfl rfl) ?_
        refine x_next ⟨.inl ⟨cx.pick2 1 2 rfl rfl rfl, hh.kp⟩, ?_⟩
        refine x_one (i := 16) (by kernel_rfl) rfl ?_
        refine s_bsl1 cx Try.underlying22 sz35 z35 rfl rfl rfl rfl rfl rfl rfl rfl ?_; intro b96 w cx hb96 hw96
        have hr96 : RowAt w b96 0 (.int .i64 3 :: .slice pa (p ++ [idxS (j + M)]).length pc :: .int .i64 0 :: (vrow a.list[i + M + s].sc cb94 cl94 cf94 ++ vrow (zk 0) (.slice none 0 0) (.slice none 0 0) (.slice none 0 0))) := cx.row 0 rfl
        replace cx := cx.tl
        replace hh := hh.trans (Fz.belC cx hw96)
        replace hr94 := (Fz.belC cx hw96).rep hr94
        replace hp86 := (Fz.belC cx hw96).pth hp86
        refine x_next ⟨.inl ⟨cx.pick2 1 2 rfl rfl rfl, hh.kp⟩, ?_⟩
        refine x_one (i := 17) (by kernel_rfl) rfl ?_
        have hcn : chA (F w _ _) w (⟨3, p ++ [idxS (j + M)], 0, a.list[i + M + s], nulV⟩ : Ch) (.int .i64 3 :: .slice pa (p ++ [idxS (j + M)]).length pc :: .int .i64 0 :: (vrow a.list[i + M + s].sc cb94 cl94 cf94 ++ vrow (zk 0) (.slice none 0 0) (.slice none 0 0) (.slice none 0 0))) := ⟨_, _, _, rfl, hp86, hr94, rep_nul⟩
        refine s_appendG (m := 1) cx ei35 Try.underlying22 rfl rfl rfl rfl rfl hr96 rfl (chA.one _ _ hcn) (by omega) ?_; intro v97 w cx hgr97 hnw97
        replace hh := hh.trans (Fz.appC cx hgr97 hnw97)
        replace hcn := (Fz.appC cx hgr97 hnw97).ch1 hcn
        refine x_next ⟨.inr (by kernel_rfl), ?_⟩
        refine x_one (i := 18) (by kernel_rfl) rfl ?_
        refine s_val rfl rfl (v_assign rfl rfl) ?_
        refine x_next ⟨.inr (by kernel_rfl), ?_⟩
        refine x_done (by kernel_rfl) ?_
        refine wp_region_lit ?_
        refine s_val rfl rfl (v_move rfl hs16) ?_
        refine s_val rfl rfl (v_addQ rfl rfl rfl (r := ((y - j + (s + 1) : Nat) : Int)) (by omega) (by omega) (by omega)) ?_
        refine s_val rfl rfl (v_assign rfl rfl) ?_
        refine wpList_nil ?_
        refine ⟨gk12 - 1, _, by omega, rfl, s + 1, v97, S ++ [⟨3, p ++ [idxS (j + M)], 0, a.list[i + M + s], nulV⟩], rs ++ [_], by omega, rfl, hs1, hs6, hs7, hs31, hs32, hs33, hs9, hs10, hs12, hs13, hs14, rfl, (hsh.snoc _).cast (by rw [gp2_succ, hge1, List.append_assoc]), LpC.of ?_ ?_ cx (hz.trans hh) (Rws.append (hh.chs hcf) ⟨hcn, trivial⟩)⟩
        · simp only [List.length_append, List.length_singleton]; omega
        · simp
      · skip
        try simp only [Bool.and_eq_true, Bool.or_eq_true, Bool.and_eq_false_iff, Bool.or_eq_false_iff, Bool.not_eq_true', Bool.not_eq_false', decide_eq_true_eq, decide_eq_false_iff_not, beq_iff_eq, beq_eq_false_iff_ne, bne_iff_ne, bne_eq_false_iff_eq, ne_eq, Classical.not_not] at hc77
        refine wp_exit ?_
        refine wp_seq ?_
        refine wp_seq ?_
        refine wp_region_lit ?_
        refine s_val rfl rfl (v_move rfl hs13) ?_
        refine s_val rfl rfl (v_assign rfl rfl) ?_
        refine wpList_nil ?_
        refine wp_block ?_
        have hsM : s = x - i - (y - j) := by omega
        subst hsM
        refine w_loop (fun k f w1 => ∃ (s : Nat) (z : Value) (S : List Ch) (rs : List (List Value)), k + s = y - j - (x - i) ∧ f 0 = z ∧ f 1 = ps ∧ f 6 = .pointer (some ⟨b6, 0, none⟩) ∧ f 7 = .pointer (some ⟨b7, 0, none⟩) ∧ f 31 = .slice (some ⟨g, 0, none⟩) PP.length c31 ∧ f 32 = .int .i64 (PP.length : Nat) ∧ f 33 = .int .i64 (t : Nat) ∧ f 9 = .int .i64 (i : Nat) ∧ f 10 = .int .i64 (j : Nat) ∧ f 12 = .pointer (some ⟨b12, 0, none⟩) ∧ f 13 = .int .i64 ((x - i : Nat) : Int) ∧ f 14 = .int .i64 ((y - j : Nat) : Int) ∧ f 17 = .int .i64 ((x - i + s : Nat) : Int) ∧ Sho n ((lstC (btw E d) p a.list b.list (PP.take t) 0 0) ++ gp1 (btw E d) p a.list b.list i j M ++ gp2 p a.list i j M (x - i - (y - j)) ++ gp3 p b.list j M s) S ∧ LpC wb wB ((b7, .cells (vrow b.sc bbs (.slice a2 b.list.length c2) bfs).toArray 33) :: (b6, .cells (vrow a.sc abs (.slice a1 a.list.length c1) afs).toArray 33) :: L) (⟨35, 29, v, n, cs⟩ :: R) ((b12, .cells ([.int .i64 (x : Int), .int .i64 (y : Int)] : List Value).toArray 43) :: ((b7, .cells (vrow b.sc bbs (.slice a2 b.list.length c2) bfs).toArray 33) :: (b6, .cells (vrow a.sc abs (.slice a1 a.list.length c1) afs).toArray 33) :: L)) R n cs S z rs w1) (y - j - (x - i)) ?_ ?_
        · skip
          exact ⟨0, z, S, rs, by omega, hs0, hs1, hs6, hs7, hs31, hs32, hs33, hs9, hs10, hs12, hs13, hs14, rfl, hsh.cast (by rw [gp3_zero, List.append_nil]), LpC.of rfl rfl cx hz hcf⟩
        intro gk16 f w hJ
        obtain ⟨s, z, S, rs, hks, hs0, hs1, hs6, hs7, hs31, hs32, hs33, hs9, hs10, hs12, hs13, hs14, hs17, hsh, cx, hz, hcf⟩ := hJ
        refine wp_seq ?_
        refine wp_seq ?_
        refine wp_region_lit ?_
        refine s_val rfl rfl (v_move rfl hs17) ?_
        refine s_val rfl rfl (v_move rfl hs14) ?_
        refine s_val rfl rfl (v_cmp rfl rfl rfl rfl) ?_
        refine wpList_nil ?_
        refine c_split rfl (fun hc101 => ?_) (fun hc101 => ?_)
        · skip
          try simp only [Bool.and_eq_true, Bool.or_eq_true, Bool.and_eq_false_iff, Bool.or_eq_false_iff, Bool.not_eq_true', Bool.not_eq_false', decide_eq_true_eq, decide_eq_false_iff_not, beq_iff_eq, beq_eq_false_iff_ne, bne_iff_ne, bne_eq_false_iff_eq, ne_eq, Classical.not_not] at hc101
          have hsM : s < y - j - (x - i) := by omega
          have hMx : M = x - i := by omega
          have hO28 := hfa2' (by omega)
          obtain rfl := hO28
          have hF2 := hsl2.inA (by omega)
          have hO29 := lst_at hz hreps2 (i := j + M + s) (by omega) hF2
          obtain ⟨r2, hr2, hv2⟩ := hO29
          replace hF2 := hz.up _ hF2
          have hge2 := getD_at (l := b.list) (i := j + M + s) (by omega)
          have hSl := hsh.1
          simp only [List.length_append, gp2_len, gp3_len] at hSl
          have hh := hz.self
          refine wp_skip ?_
          refine wp_seq ?_
          refine wp_block ?_
          refine w_ordK cx (cx.pick2 1 2 rfl rfl rfl) hh.kp mixed [(0, 104), (1, 105), (2, 106), (3, 107), (4, 108), (7, 111), (8, 112), (9, 113), (10, 114), (11, 115), (12, 116), (13, 117)] #[true, true, true, true, true, false, false, true, true, true, true, true, true, true, false, false, false, false, false] (by kernel_rfl) (by kernel_rfl) (by kernel_rfl) (by kernel_rfl) ?_
          refine pu_one rfl (wnt_none rfl) (fun w hS => by obtain ⟨cx, hkS⟩ := hS; exact v_move rfl hs0) ?_
          refine pu_one rfl (wnt_none rfl) (fun w hS => by obtain ⟨cx, hkS⟩ := hS; exact v_move rfl hs1) ?_
          refine pu_one rfl (wnt_none rfl) (fun w hS => by obtain ⟨cx, hkS⟩ := hS; exact v_move rfl hs10) ?_
          refine pu_one rfl (wnt_none rfl) (fun w hS => by obtain ⟨cx, hkS⟩ := hS; exact v_move rfl hs17) ?_
          refine pu_one rfl (wnt_none rfl) (fun w hS => by obtain ⟨cx, hkS⟩ := hS; exact v_addQ rfl rfl rfl (r := ((j + M + s : Nat) : Int)) (by omega) (by omega) (by omega)) ?_
          refine pu_one rfl (wnt_none rfl) (fun w hS => by obtain ⟨cx, hkS⟩ := hS; exact v_fa fa33_6 rfl hs7) ?_
          refine pu_one rfl (wnt_none rfl) (fun w hS => by obtain ⟨cx, hkS⟩ := hS; exact v_load1 rfl rfl Try.underlying30 rfl (cx.cell 0 rfl rfl)) ?_
          refine pu_one rfl (wnt_none rfl) (fun w hS => by obtain ⟨cx, hkS⟩ := hS; exact v_move rfl hs10) ?_
          refine pu_one rfl (wnt_none rfl) (fun w hS => by obtain ⟨cx, hkS⟩ := hS; exact v_move rfl hs17) ?_
          refine pu_one rfl (wnt_none rfl) (fun w hS => by obtain ⟨cx, hkS⟩ := hS; exact v_addQ rfl rfl rfl (r := ((j + M + s : Nat) : Int)) (by omega) (by omega) (by omega)) ?_
          refine pu_one rfl (wnt_none rfl) (fun w hS => by obtain ⟨cx, hkS⟩ := hS; exact v_ia Try.underlying30 sz33 rfl rfl rfl (by omega) (by omega)) ?_
          refine pu_one rfl (wnt_none rfl) (fun w hS => by obtain ⟨cx, hkS⟩ := hS; exact v_load rfl rfl Try.underlying33 rfl sz33 (hr2.keep (hkS _ hF2)) hv2.len) ?_
          refine pu_nil ?_; intro w cx hwD18 hkS18
          replace hh := hh.trans (Fz.belC cx hwD18)
          replace hv2 := (Fz.belC cx hwD18).rep hv2
          refine x_one (i := 5) (by kernel_rfl) rfl ?_
          refine s_fn cx (c83 (j + M + s) _) Try.func83 rfl rfl rfl rfl rfl rfl ?_; intro q109 w cx hw109 hp109
          subst hp109
          replace hh := hh.trans (Fz.belC cx hw109)
          replace hv2 := (Fz.belC cx hw109).rep hv2
          try replace hr118 := (Fz.belC cx hw109).rep hr118
          refine x_next ⟨.inl ⟨cx.pick2 1 2 rfl rfl rfl, hh.kp⟩, ?_⟩
          refine x_one (i := 6) (by kernel_rfl) rfl ?_
          have cx110 := cx
          refine s_fn cx (c81 (idxS (j + M + s)) _ p _ _ F.lt ((hz.trans hh).pth hpp) (by omega)) Try.func81 rfl rfl rfl rfl rfl rfl ?_; intro q110 w cx hw110 hp110
          replace hp110 := hp110.fr cx110 hw110.size
          replace hh := hh.trans (Fz.belC cx hw110)
          replace hv2 := (Fz.belC cx hw110).rep hv2
          try replace hr118 := (Fz.belC cx hw110).rep hr118
          refine x_next ⟨.inl ⟨cx.pick2 1 2 rfl rfl rfl, hh.kp⟩, ?_⟩
          refine x_one (i := 14) (by kernel_rfl) rfl ?_
          have cx118 := cx
          refine s_fn cx (c60 48 (b.list[j + M + s]) _ _ (deep_mono _ _ _ (deep_of_okd _ _ (hob.2.2.1 _ (List.getElem_mem _))) (by omega)) (by omega) hv2.val (hfb1.elem (List.getElem_mem _))) Try.func60 rfl rfl rfl rfl rfl rfl ?_; intro q118 w cx hw118 hp118
          have hO30 := Made.fr hp118 cx118 hw118
          obtain ⟨cb118, cl118, cf118, rfl, hr118⟩ := hO30
          replace hh := hh.trans (Fz.belC cx hw118)
          replace hv2 := (Fz.belC cx hw118).rep hv2
          try replace hp110 := (Fz.belC cx hw118).pth hp110
          refine x_next ⟨.inl ⟨cx.pick2 1 2 rfl rfl rfl, hh.kp⟩, ?_⟩
          refine x_one (i := 15) (by kernel_rfl) rfl ?_
          have hO31 := hp110.sl
          obtain ⟨pa, pc, rfl⟩ := hO31
          refine s_val rfl rfl (v_build (bd35a _ _ _ _ _ _ _) rfl rfl) ?_
          refine x_next ⟨.inl ⟨cx.pick2 1 2 rfl rfl rfl, hh.kp⟩, ?_⟩
          refine x_one (i := 16) (by kernel_rfl) rfl ?_
          refine s_bsl1 cx Try.underlying22 sz35 z35 rfl rfl rfl rfl rfl rfl rfl rfl ?_; intro b120 w cx hb120 hw120
          have hr120 : RowAt w b120 0 (.int .i64 2 :: .slice pa (p ++ [idxS (j + M + s)]).length pc :: .int .i64 0 :: (vrow (zk 0) (.slice none 0 0) (.slice none 0 0) (.slice none 0 0) ++ vrow b.list[j + M + s].sc cb118 cl118 cf118)) := cx.row 0 rfl
          replace cx := cx.tl
          replace hh := hh.trans (Fz.belC cx hw120)
          replace hr118 := (Fz.belC cx hw120).rep hr118
          replace hp110 := (Fz.belC cx hw120).pth hp110
          refine x_next ⟨.inl ⟨cx.pick2 1 2 rfl rfl rfl, hh.kp⟩, ?_⟩
          refine x_one (i := 17) (by kernel_rfl) rfl ?_
          have hcn : chA (F w _ _) w (⟨2, p ++ [idxS (j + M + s)], 0, nulV, b.list[j + M + s]⟩ : Ch) (.int .i64 2 :: .slice pa (p ++ [idxS (j + M + s)]).length pc :: .int .i64 0 :: (vrow (zk 0) (.slice none 0 0) (.slice none 0 0) (.slice none 0 0) ++ vrow b.list[j + M + s].sc cb118 cl118 cf118)) := ⟨_, _, _, rfl, hp110, rep_nul, hr118⟩
          refine s_appendG (m := 1) cx ei35 Try.underlying22 rfl rfl rfl rfl rfl hr120 rfl (chA.one _ _ hcn) (by omega) ?_; intro v121 w cx hgr121 hnw121
          replace hh := hh.trans (Fz.appC cx hgr121 hnw121)
          replace hcn := (Fz.appC cx hgr121 hnw121).ch1 hcn
          refine x_next ⟨.inr (by kernel_rfl), ?_⟩
          refine x_one (i := 18) (by kernel_rfl) rfl ?_
          refine s_val rfl rfl (v_assign rfl rfl) ?_
          refine x_next ⟨.inr (by kernel_rfl), ?_⟩
          refine x_done (by kernel_rfl) ?_
          refine wp_region_lit ?_
          refine s_val rfl rfl (v_move rfl hs17) ?_
          refine s_val rfl rfl (v_addQ rfl rfl rfl (r := ((x - i + (s + 1) : Nat) : Int)) (by omega) (by omega) (by omega)) ?_
          refine s_val rfl rfl (v_assign rfl rfl) ?_
          refine wpList_nil ?_
          refine ⟨gk16 - 1, _, by omega, rfl, s + 1, v121, S ++ [⟨2, p ++ [idxS (j + M + s)], 0, nulV, b.list[j + M + s]⟩], rs ++ [_], by omega, rfl, hs1, hs6, hs7, hs31, hs32, hs33, hs9, hs10, hs12, hs13, hs14, rfl, (hsh.snoc _).cast (by rw [gp3_succ, hge2, List.append_assoc]), LpC.of ?_ ?_ cx (hz.trans hh) (Rws.append (hh.chs hcf) ⟨hcn, trivial⟩)⟩
          · simp only [List.length_append, List.length_singleton]; omega
          · simp
        · skip
          try simp only [Bool.and_eq_true, Bool.or_eq_true, Bool.and_eq_false_iff, Bool.or_eq_false_iff, Bool.not_eq_true', Bool.not_eq_false', decide_eq_true_eq, decide_eq_false_iff_not, beq_iff_eq, beq_eq_false_iff_ne, bne_iff_ne, bne_eq_false_iff_eq, ne_eq, Classical.not_not] at hc101
          refine wp_exit ?_
          refine w_still cx mixed (by kernel_rfl) ?_; intro w cx hwD19
          skip
          refine t_val rfl rfl (v_iaR (r := 0) Try.underlying43 sz3 rfl hs12 rfl (by omega) (by omega) rfl) ?_
          refine t_val rfl rfl (v_load1 rfl rfl Try.underlying3 rfl (cx.cell 0 rfl rfl)) ?_
          refine t_val rfl rfl (v_addQ rfl rfl rfl (r := ((x + 1 : Nat) : Int)) (by omega) (by omega) (by omega)) ?_
          refine t_val rfl rfl (v_iaR (r := 1) Try.underlying43 sz3 rfl hs12 rfl (by omega) (by omega) rfl) ?_
          refine t_val rfl rfl (v_load1 rfl rfl Try.underlying3 rfl (cx.cell 0 rfl rfl)) ?_
          refine t_val rfl rfl (v_addQ rfl rfl rfl (r := ((y + 1 : Nat) : Int)) (by omega) (by omega) (by omega)) ?_
          refine t_val rfl rfl (v_assign rfl rfl) ?_
          refine t_val rfl rfl (v_assign rfl rfl) ?_
          refine t_nil ?_
          refine wp_region_lit ?_
          refine s_val rfl rfl (v_addQ rfl hs33 rfl (r := ((t + 1 : Nat) : Int)) (by omega) (by omega) (by omega)) ?_
          refine s_val rfl rfl (v_move rfl rfl) ?_
          refine wpList_nil ?_
          refine ⟨gk3 - 1, _, by omega, rfl, t + 1, z, S, rs, by omega, hs0, hs1, hs6, hs7, hs31, hs32, rfl, by rw [aft_take htl, hxy]; rfl, by rw [aft_take htl, hxy]; rfl, hsh.cast ?_, LpC.of rfl rfl cx.tl ((hz.trans (Fz.belC cx hwD19)).trans Fz.tl) (Fz.tl.chs ((Fz.belC cx hwD19).chs hcf))⟩
          rw [hlt, ← List.append_assoc, ← List.append_assoc, show s = y - j - (x - i) by omega]
  · skip
    try simp only [Bool.and_eq_true, Bool.or_eq_true, Bool.and_eq_false_iff, Bool.or_eq_false_iff, Bool.not_eq_true', Bool.not_eq_false', decide_eq_true_eq, decide_eq_false_iff_not, beq_iff_eq, beq_eq_false_iff_ne, bne_iff_ne, bne_eq_false_iff_eq, ne_eq, Classical.not_not] at hc34
    refine wp_exit ?_
    refine wp_seq ?_
    refine wp_region_lit ?_
    refine s_val rfl rfl (v_move rfl hs0) ?_
    refine s_val rfl rfl (v_assign rfl rfl) ?_
    refine wpList_nil ?_
    refine wp_ret ?_
    refine ret_tmp Try.results97 rfl ?_
    have htl : t = PP.length := by omega
    subst htl
    rw [List.take_of_length_le (Nat.le_refl _)] at hsh
    exact ⟨S, rs, hsh, (LpC.of rfl rfl cx (hzB.trans hz) hcf).drop 2⟩
end Go.Proofs.Ytmkihcdcgkdilaa
end
section
namespace Go.Proofs.Ytmkihcdcgkdilaa
open Go Go.Dk Go.RowKit
set_option linter.unusedSimpArgs false
set_option linter.unusedVariables false
attribute [local irreducible] Go.wpList Go.Code.wp Go.bodyPost Go.wpStill Go.wpQuiet
set_option maxRecDepth 10000 in
set_option maxHeartbeats 6400000 in
theorem c65 (E : V → V → Bool) (hE : ∀ x y, E x y = true ↔ canon x = canon y) : ∀ d, C65 E d := by
  intro d
  induction d with
  | zero => intro wb L R v n cs p ps a b ra rb w0 cx hpp hva hvb hoa; exact hoa.elim
  | succ d ih =>
  intro wb L R v n cs p ps a b ra rb w0 cx hpp hva hvb hoa hob hfa1 hfb1 hnar hpd hd48 hnb
  have hO1 := id (RepV.open hva)
  obtain ⟨abs, als, afs, rfl, _, hla, _⟩ := hO1
  have hO2 := id (RepV.open hvb)
  obtain ⟨bbs, bls, bfs, rfl, _, hlb, _⟩ := hO2
  have hO3 := hla.sl
  obtain ⟨la, lc, rfl⟩ := hO3
  have hO4 := hlb.sl
  obtain ⟨ma, mc, rfl⟩ := hO4
  have hO5 := cx.ownRow
  obtain ⟨va, vc, rfl, hvr⟩ := hO5
  refine ret_enter Try.func65 rfl Try.ntmps65 rfl ?_
  skip
  refine wp_seq ?_
  refine wp_region_lit ?_
  refine s_box cx rfl rfl rfl rfl rfl ?_; intro b6 w cx hb6 hw6
  refine s_box cx rfl rfl rfl rfl rfl ?_; intro b7 w cx hb7 hw7
  refine s_val rfl rfl (v_assign rfl rfl) ?_
  refine wpList_nil ?_
  refine wp_seq ?_
  refine wp_block ?_
  refine wp_seq ?_
  refine wp_region_lit ?_
  have hz : Fz w0 L (⟨35, 29, .slice va n vc, n, cs⟩ :: R) w ((b7, .cells (vrow b.sc bbs (.slice ma b.list.length mc) bfs).toArray 33) :: (b6, .cells (vrow a.sc abs (.slice la a.list.length lc) afs).toArray 33) :: L) (⟨35, 29, .slice va n vc, n, cs⟩ :: R) := (Fz.new hb6 hw6).trans (Fz.new hb7 hw7)
  refine s_val rfl rfl (v_load rfl rfl Try.underlying33 rfl sz33 (cx.row 1 rfl) rfl) ?_
  refine s_val rfl rfl (v_load rfl rfl Try.underlying33 rfl sz33 (cx.row 0 rfl) rfl) ?_
  refine s_fnB cx (c53 (d + 1) a b _ _ _ (by omega) hoa hob hfa1 hfb1 (hz.rep hva).val (hz.rep hvb).val) Try.func53 rfl rfl rfl rfl rfl rfl ?_; intro q12 w cx hw12 hp12
  replace hz := hz.trans (Fz.belC cx hw12)
  refine s_val rfl rfl (v_move rfl rfl) ?_
  refine s_gval rfl rfl rfl (by first | exact w_ff rfl | exact w_gf rfl) (fun hc => v_move rfl (by first | exact gve hc rfl | exact gve (and_l hc) rfl | exact gve (and_l (and_l hc)) rfl | rfl)) ?_
  refine s_gval rfl rfl rfl (by first | exact w_ff rfl | exact w_gf rfl) (fun hc => v_lenSlice rfl (gve hc rfl) Try.underlying22) ?_
  refine s_gval rfl rfl rfl (by first | exact w_ff rfl | exact w_gf rfl) (fun hc => v_cmp rfl (gve hc rfl) rfl rfl) ?_
  refine s_val rfl rfl (v_or rfl rfl rfl rfl) ?_
  refine s_val rfl rfl (v_assign rfl rfl) ?_
  refine wpList_nil ?_
  refine c_split rfl (fun hc9 => ?_) (fun hc9 => ?_)
  · skip
    skip
    refine wp_seq ?_
    refine wp_region_lit ?_
    refine s_val rfl rfl (v_move rfl rfl) ?_
    refine s_val rfl rfl (v_assign rfl rfl) ?_
    refine wpList_nil ?_
    refine wp_ret ?_
    refine ret_tmp Try.results65 rfl ?_
    refine ⟨[], [], ?_, (LpC.zero cx hz).drop 2⟩
    rcases Bool.or_eq_true_iff.1 hc9 with h | h
    · rw [btw_eq ((hE a b).2 (hp12.1 h))]; exact Sho.nil n
    · have h2 := of_decide_eq_true h
      exact Sho.stop (by omega)
  · skip
    skip
    have hq9 := Bool.or_eq_false_iff.1 hc9
    have hnq : E a b = false := by
      rw [Bool.eq_false_iff]
      intro h
      rw [hp12.2 ((hE a b).1 h)] at hq9; cases hq9.1
    clear hq9
    refine wp_seq ?_
    refine wp_region_lit ?_
    refine s_val rfl rfl (v_fa fa33_0 rfl rfl) ?_
    refine s_val rfl rfl (v_load1 rfl rfl Try.underlying3 rfl (cx.cell 1 rfl rfl)) ?_
    refine s_val rfl rfl (v_cmp rfl rfl rfl rfl) ?_
    refine s_val rfl rfl (v_move rfl rfl) ?_
    refine s_gval rfl rfl rfl (by first | exact w_tt rfl | exact w_gt rfl) (fun hc => v_fa fa33_0 rfl (by first | exact gve hc rfl | exact gve (and_l hc) rfl | exact gve (and_l (and_l hc)) rfl | rfl)) ?_
    refine s_gval rfl rfl rfl (by first | exact w_tt rfl | exact w_gt rfl) (fun hc => v_load1 rfl (by first | exact gve hc rfl | exact gve (and_l hc) rfl | exact gve (and_l (and_l hc)) rfl | rfl) Try.underlying3 rfl (cx.cell 0 rfl rfl)) ?_
    refine s_gval rfl rfl rfl (by first | exact w_tt rfl | exact w_gt rfl) (fun hc => v_cmp rfl (by first | exact gve hc rfl | exact gve (and_l hc) rfl | exact gve (and_l (and_l hc)) rfl | rfl) rfl rfl) ?_
    refine s_val rfl rfl (v_and rfl rfl rfl rfl) ?_
    refine s_val rfl rfl (v_assign rfl rfl) ?_
    refine wpList_nil ?_
    refine c_split rfl (fun hc19 => ?_) (fun hc19 => ?_)
    · skip
      try simp only [Bool.and_eq_true, Bool.or_eq_true, Bool.and_eq_false_iff, Bool.or_eq_false_iff, Bool.not_eq_true', Bool.not_eq_false', decide_eq_true_eq, decide_eq_false_iff_not, beq_iff_eq, beq_eq_false_iff_ne, bne_iff_ne, bne_eq_false_iff_eq, ne_eq, Classical.not_not] at hc19
      have hkk := hc19
      refine wp_seq ?_
      refine wp_region_lit ?_
      refine s_val rfl rfl (v_move rfl rfl) ?_
      refine s_val rfl rfl (v_move rfl rfl) ?_
      refine s_val rfl rfl (v_load rfl rfl Try.underlying33 rfl sz33 (cx.row 1 rfl) rfl) ?_
      refine s_val rfl rfl (v_load rfl rfl Try.underlying33 rfl sz33 (cx.row 0 rfl) rfl) ?_
      refine s_callR rfl rfl (runs_fn Try.func96 rfl rfl rfl rfl) (c96 E d ih wb _ R _ n cs p _ a b _ _ _ cx (hz.pth hpp) (hz.rep hva) (hz.rep hvb) hoa hob hfa1 hfb1 hnar hpd hd48 (by rw [btw_map hnq hkk.1 hkk.2] at hnb; exact hnb)) ?_; intro q32 w hp32
      refine s_val rfl rfl (v_assign rfl rfl) ?_
      refine wpList_nil ?_
      refine wp_ret ?_
      refine ret_tmp Try.results65 rfl ?_
      refine BtP.cast (btw_map hnq hkk.1 hkk.2) ?_
      obtain ⟨S2, rs2, hsh2, cx, hz2, hcf2⟩ := hp32
      exact ⟨S2, rs2, hsh2, (LpC.of rfl rfl cx (hz.trans hz2) hcf2).drop 2⟩
    · skip
      try simp only [Bool.and_eq_true, Bool.or_eq_true, Bool.and_eq_false_iff, Bool.or_eq_false_iff, Bool.not_eq_true', Bool.not_eq_false', decide_eq_true_eq, decide_eq_false_iff_not, beq_iff_eq, beq_eq_false_iff_ne, bne_iff_ne, bne_eq_false_iff_eq, ne_eq, Classical.not_not] at hc19
      have hnk : ¬ (a.sc.kind = 7 ∧ b.sc.kind = 7) := fun h => by
        rcases hc19 with h2 | h2
        · exact h2 h.1
        · exact h2 h.2
      refine wp_seq ?_
      refine wp_region_lit ?_
      refine s_val rfl rfl (v_fa fa33_0 rfl rfl) ?_
      refine s_val rfl rfl (v_load1 rfl rfl Try.underlying3 rfl (cx.cell 1 rfl rfl)) ?_
      refine s_val rfl rfl (v_cmp rfl rfl rfl rfl) ?_
      refine s_val rfl rfl (v_move rfl rfl) ?_
      refine s_gval rfl rfl rfl (by first | exact w_tt rfl | exact w_gt rfl) (fun hc => v_fa fa33_0 rfl (by first | exact gve hc rfl | exact gve (and_l hc) rfl | exact gve (and_l (and_l hc)) rfl | rfl)) ?_
      refine s_gval rfl rfl rfl (by first | exact w_tt rfl | exact w_gt rfl) (fun hc => v_load1 rfl (by first | exact gve hc rfl | exact gve (and_l hc) rfl | exact gve (and_l (and_l hc)) rfl | rfl) Try.underlying3 rfl (cx.cell 0 rfl rfl)) ?_
      refine s_gval rfl rfl rfl (by first | exact w_tt rfl | exact w_gt rfl) (fun hc => v_cmp rfl (by first | exact gve hc rfl | exact gve (and_l hc) rfl | exact gve (and_l (and_l hc)) rfl | rfl) rfl rfl) ?_
      refine s_val rfl rfl (v_and rfl rfl rfl rfl) ?_
      refine s_val rfl rfl (v_assign rfl rfl) ?_
      refine wpList_nil ?_
      refine c_split rfl (fun hc33 => ?_) (fun hc33 => ?_)
      · skip
        try simp only [Bool.and_eq_true, Bool.or_eq_true, Bool.and_eq_false_iff, Bool.or_eq_false_iff, Bool.not_eq_true', Bool.not_eq_false', decide_eq_true_eq, decide_eq_false_iff_not, beq_iff_eq, beq_eq_false_iff_ne, bne_iff_ne, bne_eq_false_iff_eq, ne_eq, Classical.not_not] at hc33
        have hll := hc33
        refine wp_seq ?_
        refine wp_region_lit ?_
        refine s_val rfl rfl (v_move rfl rfl) ?_
        refine s_val rfl rfl (v_move rfl rfl) ?_
        refine s_val rfl rfl (v_load rfl rfl Try.underlying33 rfl sz33 (cx.row 1 rfl) rfl) ?_
        refine s_val rfl rfl (v_load rfl rfl Try.underlying33 rfl sz33 (cx.row 0 rfl) rfl) ?_
        refine s_callR rfl rfl (runs_fn Try.func97 rfl rfl rfl rfl) (c97 E hE d ih wb _ R _ n cs p _ a b _ _ _ cx (hz.pth hpp) (hz.rep hva) (hz.rep hvb) hoa hob hfa1 hfb1 hnar hpd hd48 (by rw [btw_lst hnq hnk hll.1 hll.2] at hnb; exact hnb)) ?_; intro q46 w hp46
        refine s_val rfl rfl (v_assign rfl rfl) ?_
        refine wpList_nil ?_
        refine wp_ret ?_
        refine ret_tmp Try.results65 rfl ?_
        refine BtP.cast (btw_lst hnq hnk hll.1 hll.2) ?_
        obtain ⟨S2, rs2, hsh2, cx, hz2, hcf2⟩ := hp46
        exact ⟨S2, rs2, hsh2, (LpC.of rfl rfl cx (hz.trans hz2) hcf2).drop 2⟩
      · skip
        try simp only [Bool.and_eq_true, Bool.or_eq_true, Bool.and_eq_false_iff, Bool.or_eq_false_iff, Bool.not_eq_true', Bool.not_eq_false', decide_eq_true_eq, decide_eq_false_iff_not, beq_iff_eq, beq_eq_false_iff_ne, bne_iff_ne, bne_eq_false_iff_eq, ne_eq, Classical.not_not] at hc33
        have hnl : ¬ (a.sc.kind = 6 ∧ b.sc.kind = 6) := fun h => by
          rcases hc33 with h2 | h2
          · exact h2 h.1
          · exact h2 h.2
        have hh := hz.self
        have hn1 : n + 1 ≤ 1048576 := by rw [btw_rep hnq hnk hnl] at hnb; exact hnb
        refine wp_skip ?_
        refine wp_seq ?_
        refine w_ord cx (cx.pick2 1 0 rfl rfl rfl) mixed [(0, 47), (1, 48), (3, 50), (5, 52)] #[true, true, false, true, false, true, false, false, false, false, false] (by kernel_rfl) (by kernel_rfl) (by kernel_rfl) (by kernel_rfl) ?_
        refine pu_one rfl (wnt_none rfl) (fun w cx => v_move rfl rfl) ?_
        refine pu_one rfl (wnt_none rfl) (fun w cx => v_move rfl rfl) ?_
        refine pu_one rfl (wnt_none rfl) (fun w cx => v_load rfl rfl Try.underlying33 rfl sz33 (cx.row 0 rfl) rfl) ?_
        refine pu_one rfl (wnt_none rfl) (fun w cx => v_load rfl rfl Try.underlying33 rfl sz33 (cx.row 1 rfl) rfl) ?_
        refine pu_nil ?_; intro w cx hwD7
        replace hh := hh.trans (Fz.belC cx hwD7)
        refine x_one (i := 2) (by kernel_rfl) rfl ?_
        have cx49 := cx
        refine s_fn cx (c84 _ p [] _ _ _ F.lt ((hz.trans hh).pth hpp) PthA.nil (by simp only [List.length_nil]; omega)) Try.func84 rfl rfl rfl rfl rfl rfl ?_; intro q49 w cx hw49 hp49
        replace hp49 := hp49.fr cx49 hw49.size
        rw [List.append_nil] at hp49
        replace hh := hh.trans (Fz.belC cx hw49)
        try replace hr51 := (Fz.belC cx hw49).rep hr51
        try replace hr53 := (Fz.belC cx hw49).rep hr53
        refine x_next ⟨.inl (cx.pick2 1 0 rfl rfl rfl), ?_⟩
        refine x_one (i := 4) (by kernel_rfl) rfl ?_
        have cx51 := cx
        refine s_fn cx (c60 48 (a) _ _ (deep_mono _ _ _ (deep_of_okd _ _ (hoa)) (by omega)) (by omega) ((hz.trans hh).rep hva).val (hfa1)) Try.func60 rfl rfl rfl rfl rfl rfl ?_; intro q51 w cx hw51 hp51
        have hO6 := Made.fr hp51 cx51 hw51
        obtain ⟨cb51, cl51, cf51, rfl, hr51⟩ := hO6
        replace hh := hh.trans (Fz.belC cx hw51)
        try replace hp49 := (Fz.belC cx hw51).pth hp49
        try replace hr53 := (Fz.belC cx hw51).rep hr53
        refine x_next ⟨.inl (cx.pick2 1 0 rfl rfl rfl), ?_⟩
        refine x_one (i := 6) (by kernel_rfl) rfl ?_
        have cx53 := cx
        refine s_fn cx (c60 48 (b) _ _ (deep_mono _ _ _ (deep_of_okd _ _ (hob)) (by omega)) (by omega) ((hz.trans hh).rep hvb).val (hfb1)) Try.func60 rfl rfl rfl rfl rfl rfl ?_; intro q53 w cx hw53 hp53
        have hO7 := Made.fr hp53 cx53 hw53
        obtain ⟨cb53, cl53, cf53, rfl, hr53⟩ := hO7
        replace hh := hh.trans (Fz.belC cx hw53)
        try replace hp49 := (Fz.belC cx hw53).pth hp49
        try replace hr51 := (Fz.belC cx hw53).rep hr51
        refine x_next ⟨.inl (cx.pick2 1 0 rfl rfl rfl), ?_⟩
        refine x_one (i := 7) (by kernel_rfl) rfl ?_
        have hO8 := hp49.sl
        obtain ⟨pa, pc, rfl⟩ := hO8
        refine s_val rfl rfl (v_build (bd35c _ _ _ _ _ _ _ _ _ _ _) rfl rfl) ?_
        refine x_next ⟨.inl (cx.pick2 1 0 rfl rfl rfl), ?_⟩
        refine x_one (i := 8) (by kernel_rfl) rfl ?_
        refine s_bsl1 cx Try.underlying22 sz35 z35 rfl rfl rfl rfl rfl rfl rfl rfl ?_; intro b55 w cx hb55 hw55
        have hr55 : RowAt w b55 0 (.int .i64 1 :: .slice pa p.length pc :: .int .i64 0 :: (vrow a.sc cb51 cl51 cf51 ++ vrow b.sc cb53 cl53 cf53)) := cx.row 0 rfl
        replace cx := cx.tl
        replace hh := hh.trans (Fz.belC cx hw55)
        replace hp49 := (Fz.belC cx hw55).pth hp49
        replace hr51 := (Fz.belC cx hw55).rep hr51
        replace hr53 := (Fz.belC cx hw55).rep hr53
        refine x_next ⟨.inl (cx.pick2 1 0 rfl rfl rfl), ?_⟩
        refine x_one (i := 9) (by kernel_rfl) rfl ?_
        have hcn : chA (F w _ _) w (⟨1, p, 0, a, b⟩ : Ch) (.int .i64 1 :: .slice pa p.length pc :: .int .i64 0 :: (vrow a.sc cb51 cl51 cf51 ++ vrow b.sc cb53 cl53 cf53)) := ⟨_, _, _, rfl, hp49, hr51, hr53⟩
        refine s_appendG (m := 1) cx ei35 Try.underlying22 rfl rfl rfl rfl rfl hr55 rfl (chA.one _ _ hcn) (by omega) ?_; intro v56 w cx hgr56 hnw56
        replace hh := hh.trans (Fz.appC cx hgr56 hnw56)
        replace hcn := (Fz.appC cx hgr56 hnw56).ch1 hcn
        refine x_next ⟨.inr (by kernel_rfl), ?_⟩
        refine x_one (i := 10) (by kernel_rfl) rfl ?_
        refine s_val rfl rfl (v_assign rfl rfl) ?_
        refine x_next ⟨.inr (by kernel_rfl), ?_⟩
        refine x_done (by kernel_rfl) ?_
        refine wp_ret ?_
        refine ret_tmp Try.results65 rfl ?_
        refine BtP.cast (btw_rep hnq hnk hnl) ?_
        exact ⟨[⟨1, p, 0, a, b⟩], [.int .i64 1 :: .slice pa p.length pc :: .int .i64 0 :: (vrow a.sc cb51 cl51 cf51 ++ vrow b.sc cb53 cl53 cf53)], Sho.refl _ _, (LpC.of (S := [⟨1, p, 0, a, b⟩]) (rs := [.int .i64 1 :: .slice pa p.length pc :: .int .i64 0 :: (vrow a.sc cb51 cl51 cf51 ++ vrow b.sc cb53 cl53 cf53)]) rfl (by simp) cx (hz.trans hh) ⟨hcn, trivial⟩).drop 2⟩
end Go.Proofs.Ytmkihcdcgkdilaa
end
section
namespace Go.Proofs.Ytmkihcdcgkdilaa
open Go Go.Dk Go.RowKit
open Rows (uptoBulk uptoBulkAll)
set_option linter.unusedSimpArgs false

theorem szd_mono {N N' : Nat} (h : N ≤ N') : ∀ (d : Nat) (v : V), szd N d v → szd N' d v
  | 0, _, _ => trivial
  | d + 1, v, hv => by
    obtain ⟨h1, h2, h3, h4, h5, h6, h7⟩ := hv
    exact ⟨by omega, by omega, by omega, by omega, by omega, fun x hx => szd_mono h d x (h6 x hx), fun x hx => ⟨by have := (h7 x hx).1; omega, szd_mono h d x.2 (h7 x hx).2⟩⟩

section
variable {H : Type}
theorem bulk_one (d : DataW H) : 1 ≤ uptoBulk d := by
  cases d with
  | lit l => cases l <;> simp [uptoBulk]
  | _ => simp [uptoBulk]
theorem bulk_part {d : DataW H} {l : List (DataW H)} (h : d ∈ l) : uptoBulk d ≤ uptoBulkAll l := by
  induction l with
  | nil => cases h
  | cons x r ih =>
    simp only [uptoBulkAll]
    cases List.mem_cons.1 h with
    | inl e => subst e; omega
    | inr e => have := ih e; omega
theorem bulk_length (l : List (DataW H)) : l.length ≤ uptoBulkAll l := by
  induction l with
  | nil => simp [uptoBulkAll]
  | cons x r ih => have := bulk_one x; simp only [uptoBulkAll, List.length_cons]; omega

theorem cells_row {w : World} {base n : Nat} {a : Addr} {cs : List Value} (h : w.cells? base a n = some cs) : cs.length = n ∧ ∀ i x, cs[i]? = some x → w.cell? (a.add i) = some x := by
  unfold World.cells? at h
  split at h
  · have hl := mapM_some_length h
    simp only [List.length_range] at hl
    refine ⟨hl, fun i x hx => ?_⟩
    have hi : i < n := by have := (List.getElem?_eq_some_iff.1 hx).1; omega
    have := mapM_some_get h i i (by simp [hi])
    rw [this]; exact hx
  · cases h
theorem add_add (a : Addr) (h : a.spot = none) (i j : Nat) : (a.add i).add j = ⟨a.block, a.off + i + j, none⟩ := by
  obtain ⟨b, o, sp⟩ := a
  simp only at h
  subst h
  rw [add_addr, add_addr]

variable {enc : TypeId × Value → H} {w : World} {base : Nat} {spare : Nat → Bool} {held : Bool}
/-- the elements of a slice, one by one -/
theorem rd_slice {t e k n : Nat} {cs : List Value} {x : DataW H × List MemPlace} (ht : Try.prog.underlying t = some (.slice e)) (hk : Try.prog.cellsOf e = k) (hk0 : 0 < k) (h : DataW.trod enc Try.prog w base spare held (n + 1) t cs = some x) :
    ∃ s len b o, cs = [s] ∧ SliceAt (fun b => b < w.heap.size) s len b o ∧ len + 1 ≤ uptoBulk x.1 + 1 ∧
      ∀ i, i < len → ∃ r y, r.length = k ∧ RowAt w b (o + i * k) r ∧ DataW.trod enc Try.prog w base spare held n e r = some y ∧ uptoBulk y.1 + 1 ≤ uptoBulk x.1 := by
  rcases DataW.trod_slice ht h with ⟨rfl, rfl⟩ | ⟨a, len, cap, elems, rest, n', hn, rfl, rfl, hb, hl, hm, hlen, hel, _, _⟩
  · exact ⟨_, 0, 0, 0, rfl, .inl ⟨rfl, rfl⟩, by omega, fun i hi => by omega⟩
  · obtain rfl : n = n' := by omega
    have hb1 : uptoBulkAll (elems.map (·.1)) + 1 ≤ uptoBulk (DataW.slice (elems.map (·.1)) (rest.map (·.1))) := by simp only [uptoBulk]; omega
    have hb2 := bulk_length (elems.map (·.1))
    simp only [List.length_map] at hb2
    have key : ∀ i, i < len → ∃ r y, r.length = k ∧ (∀ j x, r[j]? = some x → w.cell? ((a.add (i * k)).add j) = some x) ∧ DataW.trod enc Try.prog w base spare held n e r = some y ∧ y ∈ elems := by
      intro i hi
      have h1 := hel i hi
      rw [hk] at h1
      have hi' : i < elems.length := by omega
      rw [List.getElem?_eq_getElem hi'] at h1
      cases hc : w.cells? base (a.add (i * k)) k with
      | none => rw [hc] at h1; cases h1
      | some r =>
        rw [hc] at h1
        obtain ⟨h2, h3⟩ := cells_row hc
        exact ⟨r, elems[i], h2, h3, h1, List.getElem_mem _⟩
    have hspot : 0 < len → a.spot = none := by
      intro h0
      obtain ⟨r, y, h1, h2, _⟩ := key 0 h0
      have hr : r[0]? = some r[0] := List.getElem?_eq_getElem (by omega)
      have := World.cell?_spot (h2 0 _ hr)
      simpa [Addr.add] using this
    have hblk : 0 < len → a.block < w.heap.size := by
      intro h0
      obtain ⟨r, y, h1, h2, _⟩ := key 0 h0
      have hr : r[0]? = some r[0] := List.getElem?_eq_getElem (by omega)
      have := block_lt_of_cell (h2 0 _ hr)
      simpa [Addr.add] using this
    refine ⟨_, len, a.block, a.off, rfl, .inr ⟨a, cap, rfl, hl, fun h0 => ⟨?_, hblk h0⟩⟩, by dsimp only; omega, ?_⟩
    · have := hspot h0
      obtain ⟨b, o, sp⟩ := a
      simp only at this
      subst this
      rfl
    · intro i hi
      obtain ⟨r, y, h1, h2, h3, h4⟩ := key i hi
      refine ⟨r, y, h1, fun j x hj => ?_, h3, ?_⟩
      · have := h2 j x hj
        rwa [add_add a (hspot (by omega))] at this
      · have := bulk_part (List.mem_map.2 ⟨y, h4, rfl⟩ : y.1 ∈ elems.map (·.1))
        dsimp only
        omega

theorem cellsOf_of {t k : Nat} (h : (Try.prog.info? t).map (·.size) = some k) : Try.prog.cellsOf t = k := by unfold Program.cellsOf; rw [h]; rfl

/-- a struct's parts -/
theorem rd_struct {t k n : Nat} {fs : Array Field} {cs : List Value} {x : DataW H × List MemPlace} (ht : Try.prog.underlying t = some (.struct fs)) (hk : Try.prog.cellsOf t = k) (h : DataW.trod enc Try.prog w base spare held (n + 1) t cs = some x) :
    cs.length = k ∧ ∀ (i ty off m : Nat), (fs[i]?.map fun f => (f.type, f.offset)) = some (ty, off) → Try.prog.cellsOf ty = m → ∃ y, DataW.trod enc Try.prog w base spare held n ty ((cs.drop off).take m) = some y ∧ uptoBulk y.1 + 1 ≤ uptoBulk x.1 := by
  obtain ⟨xs, n', hn, rfl, hl, hlen, hf⟩ := DataW.trod_struct ht h
  obtain rfl : n = n' := by omega
  refine ⟨hl.trans hk, fun i ty off m hfi hm => ?_⟩
  cases hfi' : fs[i]? with
  | none => rw [hfi'] at hfi; cases hfi
  | some f =>
  rw [hfi'] at hfi
  simp only [Option.map_some, Option.some.injEq, Prod.mk.injEq] at hfi
  obtain ⟨rfl, rfl⟩ := hfi
  subst hm
  have hi : i < xs.length := by rw [hlen]; exact (Array.getElem?_eq_some_iff.1 hfi').1
  have h1 := hf i f hfi'
  rw [List.getElem?_eq_getElem hi] at h1
  refine ⟨xs[i], h1, ?_⟩
  have := bulk_part (List.mem_map.2 ⟨xs[i], List.getElem_mem _, rfl⟩ : xs[i].1 ∈ xs.map (·.1))
  simp only [uptoBulk]
  omega
theorem rd_int {t n : Nat} {k : IntKind} {cs : List Value} {x : DataW H × List MemPlace} (ht : Try.prog.underlying t = some (.int k)) (h : DataW.trod enc Try.prog w base spare held n t cs = some x) : ∃ m, cs = [.int k m] := by
  obtain ⟨m, h1, _⟩ := DataW.trod_int ht h; exact ⟨m, h1⟩
theorem rd_bool {t n : Nat} {cs : List Value} {x : DataW H × List MemPlace} (ht : Try.prog.underlying t = some .bool) (h : DataW.trod enc Try.prog w base spare held n t cs = some x) : ∃ m, cs = [.bool m] := by
  obtain ⟨m, h1, _⟩ := DataW.trod_bool ht h; exact ⟨m, h1⟩
theorem rd_string {t n : Nat} {cs : List Value} {x : DataW H × List MemPlace} (ht : Try.prog.underlying t = some .string) (h : DataW.trod enc Try.prog w base spare held n t cs = some x) : ∃ s : ByteArray, cs = [.string s] ∧ s.size + 1 ≤ uptoBulk x.1 := by
  obtain ⟨s, h1, rfl, _⟩ := DataW.trod_string ht h
  refine ⟨s, h1, ?_⟩
  simp only [uptoBulk, Array.length_toList]
  exact Nat.le_refl _

theorem RepLs_of {A : Nat → Prop} {w : World} {b : Nat} : ∀ (l : List V) (o : Nat), (∀ i v, l[i]? = some v → ∃ r, RowAt w b (o + i * 13) r ∧ RepV A w v r) → RepLs A w b o l
  | [], _, _ => trivial
  | v :: l, o, h => by
    simp only [RepLs]
    refine ⟨by simpa using h 0 v rfl, RepLs_of l (o + 13) fun i u hu => ?_⟩
    have := h (i + 1) u (by simpa using hu)
    rwa [show o + (i + 1) * 13 = o + 13 + i * 13 by omega] at this
theorem RepFs_of {A : Nat → Prop} {w : World} {b : Nat} : ∀ (l : List (ByteArray × V)) (o : Nat), (∀ i kv, l[i]? = some kv → ∃ r, RowAt w b (o + i * 14) (.string kv.1 :: r) ∧ RepV A w kv.2 r) → RepFs A w b o l
  | [], _, _ => trivial
  | (k, v) :: l, o, h => by
    simp only [RepFs, RepP]
    refine ⟨by simpa using h 0 (k, v) rfl, RepFs_of l (o + 14) fun i u hu => ?_⟩
    have := h (i + 1) u (by simpa using hu)
    rwa [show o + (i + 1) * 14 = o + 14 + i * 14 by omega] at this
/-- one for each index: a list of them -/
theorem list_of {α : Type} {p : Nat → α → Prop} (n : Nat) (h : ∀ i, i < n → ∃ a, p i a) : ∃ l : List α, l.length = n ∧ ∀ i a, l[i]? = some a → p i a := by
  induction n with
  | zero => exact ⟨[], rfl, fun i a ha => by simp at ha⟩
  | succ n ih =>
    obtain ⟨l, hl, hp⟩ := ih fun i hi => h i (by omega)
    obtain ⟨a, ha⟩ := h n (by omega)
    refine ⟨l ++ [a], by simp [hl], fun i b hb => ?_⟩
    rcases Nat.lt_or_ge i n with hi | hi
    · rw [List.getElem?_append_left (by omega)] at hb; exact hp i b hb
    · rw [List.getElem?_append_right (by omega)] at hb
      have : i = n := by
        rcases Nat.eq_zero_or_pos (i - l.length) with h0 | h0
        · omega
        · rw [List.getElem?_eq_none (by simp; omega)] at hb; cases hb
      subst this
      rw [hl, Nat.sub_self] at hb
      simp at hb
      subst hb
      exact ha

theorem cells13 {l : List Value} (h : l.length = 13) : ∃ c0 c1 c2 c3 c4 c5 c6 c7 c8 c9 c10 c11 c12, l = [c0, c1, c2, c3, c4, c5, c6, c7, c8, c9, c10, c11, c12] := by
  match l, h with
  | [c0, c1, c2, c3, c4, c5, c6, c7, c8, c9, c10, c11, c12], _ => exact ⟨_, _, _, _, _, _, _, _, _, _, _, _, _, rfl⟩
theorem cells3 {l : List Value} (h : l.length = 3) : ∃ c0 c1 c2, l = [c0, c1, c2] := by
  match l, h with
  | [c0, c1, c2], _ => exact ⟨_, _, _, rfl⟩
theorem cells29 {l : List Value} (h : l.length = 29) : ∃ c0 c1 c2 r, l = c0 :: c1 :: c2 :: r ∧ r.length = 26 := by
  match l, h with
  | c0 :: c1 :: c2 :: r, h => exact ⟨_, _, _, _, rfl, by simpa using h⟩
theorem cells14 {l : List Value} (h : l.length = 14) : ∃ c0 r, l = c0 :: r ∧ r.length = 13 := by
  match l, h with
  | c0 :: r, h => exact ⟨_, _, rfl, by simpa using h⟩
/-- bytes -/
theorem rd_bytes {t n : Nat} {cs : List Value} {x : DataW H × List MemPlace} (ht : Try.prog.underlying t = some (.slice 5)) (h : DataW.trod enc Try.prog w base spare held n t cs = some x) :
    ∃ s l, cs = [s] ∧ RepB (fun b => b < w.heap.size) w s l ∧ l.length ≤ uptoBulk x.1 := by
  cases n with
  | zero => simp [DataW.trod] at h
  | succ n =>
  obtain ⟨s, len, b, o, rfl, hs, hb, hel⟩ := rd_slice ht (cellsOf_of sz5) (by omega) h
  obtain ⟨l, hl, hp⟩ := list_of (p := fun i (u : UInt8) => w.cell? ⟨b, o + i, none⟩ = some (byteVal u)) len fun i hi => by
    obtain ⟨r, y, hr, h1, h2, _⟩ := hel i hi
    obtain ⟨m, rfl⟩ := rd_int Try.underlying5 h2
    obtain ⟨m', e, _, hm⟩ := DataW.trod_int Try.underlying5 h2
    have := h1 0 _ rfl
    rw [Nat.mul_one, Nat.add_zero] at this
    obtain ⟨u, hu⟩ : ∃ u : UInt8, Value.int .u8 m = byteVal u := by
      refine ⟨UInt8.ofNat m.toNat, ?_⟩
      simp only [List.cons.injEq, Value.int.injEq, true_and, and_true] at e
      subst e
      simp only [Lit.wf, IntKind.min, IntKind.max, Bool.and_eq_true, decide_eq_true_eq] at hm
      simp only [byteVal]
      have h0 : 0 ≤ m := by have := hm.1; simpa [IntKind.signed] using this
      have h1 : m ≤ 255 := by have := hm.2; simpa [IntKind.signed, IntKind.bits] using this
      rw [UInt8.toNat_ofNat_of_lt' (by show m.toNat < 256; omega), Int.toNat_of_nonneg h0]
    exact ⟨u, by rw [this, hu]⟩
  subst hl
  refine ⟨s, l, rfl, ⟨b, o, hs, fun i y hy => ?_⟩, by omega⟩
  rw [List.getElem?_map] at hy
  cases hu : l[i]? with
  | none => rw [hu] at hy; cases hy
  | some u =>
    rw [hu] at hy
    simp only [Option.map_some, Option.some.injEq] at hy
    rw [hp i u hu, hy]

/-- a value: its cells hold one, and all in it is of a size within the bulk -/
def Has (w : World) (cs : List Value) (N : Nat) : Prop := ∃ v, Val w v cs ∧ ∀ d, szd N d v
theorem rd33 : ∀ (n : Nat) (cs : List Value) (x : DataW H × List MemPlace), DataW.trod enc Try.prog w base spare held n 33 cs = some x → Has w cs (uptoBulk x.1) := by
  intro n
  induction n using Nat.strongRecOn with
  | _ n ih =>
  intro cs x h
  cases n with
  | zero => simp [DataW.trod] at h
  | succ n =>
  obtain ⟨hl, hf⟩ := rd_struct Try.underlying33 (cellsOf_of sz33) h
  obtain ⟨c0, c1, c2, c3, c4, c5, c6, c7, c8, c9, c10, c11, c12, rfl⟩ := cells13 hl
  obtain ⟨y0, t0, _⟩ := hf 0 3 0 1 rfl (cellsOf_of sz3)
  obtain ⟨y1, t1, _⟩ := hf 1 4 1 1 rfl (cellsOf_of sz4)
  obtain ⟨y2, t2, u2⟩ := hf 2 26 2 3 rfl (cellsOf_of sz26)
  obtain ⟨y3, t3, _⟩ := hf 3 28 5 4 rfl (cellsOf_of sz28)
  obtain ⟨y4, t4, u4⟩ := hf 4 9 9 1 rfl (cellsOf_of sz9)
  obtain ⟨y5, t5, u5⟩ := hf 5 29 10 1 rfl (cellsOf_of sz29)
  obtain ⟨y6, t6, u6⟩ := hf 6 30 11 1 rfl (cellsOf_of sz30)
  obtain ⟨y7, t7, u7⟩ := hf 7 31 12 1 rfl (cellsOf_of sz31)
  simp only [List.drop_succ_cons, List.drop_zero, List.take_succ_cons, List.take_zero] at t0 t1 t2 t3 t4 t5 t6 t7
  cases n with
  | zero => simp [DataW.trod] at t0
  | succ n =>
  obtain ⟨k, e0⟩ := rd_int Try.underlying3 t0
  obtain ⟨bo, e1⟩ := rd_bool Try.underlying4 t1
  obtain ⟨tx, e4, z4⟩ := rd_string Try.underlying9 t4
  simp only [List.cons.injEq, and_true] at e0 e1 e4
  subst e0 e1 e4
  obtain ⟨_, hn⟩ := rd_struct Try.underlying26 (cellsOf_of sz26) t2
  obtain ⟨n0, p0, _⟩ := hn 0 4 0 1 rfl (cellsOf_of sz4)
  obtain ⟨n1, p1, v1⟩ := hn 1 9 1 1 rfl (cellsOf_of sz9)
  obtain ⟨n2, p2, _⟩ := hn 2 3 2 1 rfl (cellsOf_of sz3)
  obtain ⟨_, ht⟩ := rd_struct Try.underlying28 (cellsOf_of sz28) t3
  obtain ⟨m0, q0, _⟩ := ht 0 3 0 1 rfl (cellsOf_of sz3)
  obtain ⟨m1, q1, _⟩ := ht 1 3 1 1 rfl (cellsOf_of sz3)
  obtain ⟨m2, q2, _⟩ := ht 2 3 2 1 rfl (cellsOf_of sz3)
  obtain ⟨m3, q3, _⟩ := ht 3 3 3 1 rfl (cellsOf_of sz3)
  simp only [List.drop_succ_cons, List.drop_zero, List.take_succ_cons, List.take_zero] at p0 p1 p2 q0 q1 q2 q3
  obtain ⟨neg, e⟩ := rd_bool Try.underlying4 p0
  simp only [List.cons.injEq, and_true] at e; subst e
  obtain ⟨dig, e, zd⟩ := rd_string Try.underlying9 p1
  simp only [List.cons.injEq, and_true] at e; subst e
  obtain ⟨ex, e⟩ := rd_int Try.underlying3 p2
  simp only [List.cons.injEq, and_true] at e; subst e
  obtain ⟨tk, e⟩ := rd_int Try.underlying3 q0
  simp only [List.cons.injEq, and_true] at e; subst e
  obtain ⟨td, e⟩ := rd_int Try.underlying3 q1
  simp only [List.cons.injEq, and_true] at e; subst e
  obtain ⟨tn, e⟩ := rd_int Try.underlying3 q2
  simp only [List.cons.injEq, and_true] at e; subst e
  obtain ⟨tz, e⟩ := rd_int Try.underlying3 q3
  simp only [List.cons.injEq, and_true] at e; subst e
  obtain ⟨bs, bl, e, hB, zB⟩ := rd_bytes Try.underlying29 t5
  simp only [List.cons.injEq, and_true] at e; subst e
  obtain ⟨ls, ll, b6, o6, e, s6, z6, g6⟩ := rd_slice Try.underlying30 (cellsOf_of sz33) (by omega) t6
  simp only [List.cons.injEq, and_true] at e; subst e
  obtain ⟨fs, fl, b7, o7, e, s7, z7, g7⟩ := rd_slice Try.underlying31 (cellsOf_of sz77) (by omega) t7
  simp only [List.cons.injEq, and_true] at e; subst e
  obtain ⟨L, hL, pL⟩ := list_of (p := fun i (v : V) => (∃ r, RowAt w b6 (o6 + i * 13) r ∧ Val w v r) ∧ ∀ d, szd (uptoBulk x.1) d v) ll fun i hi => by
    obtain ⟨r, y, _, h1, h2, h3⟩ := g6 i hi
    obtain ⟨v, h4, h5⟩ := ih n (by omega) r y h2
    exact ⟨v, ⟨r, h1, h4⟩, fun d => szd_mono (by omega) d v (h5 d)⟩
  obtain ⟨F, hF, pF⟩ := list_of (p := fun i (kv : ByteArray × V) => (∃ r, RowAt w b7 (o7 + i * 14) (.string kv.1 :: r) ∧ Val w kv.2 r) ∧ kv.1.size ≤ uptoBulk x.1 ∧ ∀ d, szd (uptoBulk x.1) d kv.2) fl fun i hi => by
    obtain ⟨r, y, hr, h1, h2, h3⟩ := g7 i hi
    cases n with
    | zero => simp [DataW.trod] at h2
    | succ n =>
    obtain ⟨hl, hg⟩ := rd_struct Try.underlying77 (cellsOf_of sz77) h2
    obtain ⟨c, r', rfl, hl'⟩ := cells14 hl
    obtain ⟨y0, a0, b0⟩ := hg 0 9 0 1 rfl (cellsOf_of sz9)
    obtain ⟨y1, a1, b1⟩ := hg 1 33 1 13 rfl (cellsOf_of sz33)
    simp only [List.drop_succ_cons, List.drop_zero, List.take_succ_cons, List.take_zero] at a0 a1
    rw [List.take_of_length_le (by omega)] at a1
    obtain ⟨key, e, zk⟩ := rd_string Try.underlying9 a0
    simp only [List.cons.injEq, and_true] at e; subst e
    obtain ⟨v, h4, h5⟩ := ih n (by omega) r' y1 a1
    exact ⟨(key, v), ⟨r', h1, h4⟩, by dsimp only; omega, fun d => szd_mono (by omega) d v (h5 d)⟩
  refine ⟨.mk ⟨k, bo, neg, dig, ex, tk, td, tn, tz, tx⟩ bl L F, RepV.mk (v := .mk ⟨k, bo, neg, dig, ex, tk, td, tn, tz, tx⟩ bl L F) hB ⟨b6, o6, by subst hL; exact s6, RepLs_of L o6 fun i v hv => (pL i v hv).1⟩ ⟨b7, o7, by subst hF; exact s7, RepFs_of F o7 fun i v hv => (pF i v hv).1⟩, fun d => ?_⟩
  cases d with
  | zero => trivial
  | succ d =>
    refine ⟨by simp only [V.sc]; omega, by simp only [V.sc]; omega, by simp only [V.bytes]; omega, by simp only [V.list]; omega, by simp only [V.fields]; omega, fun v hv => ?_, fun kv hv => ?_⟩
    · obtain ⟨i, hi⟩ := List.getElem?_of_mem hv
      exact (pL i v hi).2 d
    · obtain ⟨i, hi⟩ := List.getElem?_of_mem hv
      exact ⟨(pF i kv hi).2.1, (pF i kv hi).2.2 d⟩

/-- a path -/
theorem rd24 {n : Nat} {cs : List Value} {x : DataW H × List MemPlace} (h : DataW.trod enc Try.prog w base spare held n 24 cs = some x) : ∃ s l, cs = [s] ∧ Pth w s l := by
  cases n with
  | zero => simp [DataW.trod] at h
  | succ n =>
  obtain ⟨s, len, b, o, rfl, hs, hb, hel⟩ := rd_slice Try.underlying24 (cellsOf_of sz112) (by omega) h
  obtain ⟨l, hl, hp⟩ := list_of (p := fun i (u : Stp) => RowAt w b (o + i * 3) (srow u)) len fun i hi => by
    obtain ⟨r, y, hr, h1, h2, _⟩ := hel i hi
    cases n with
    | zero => simp [DataW.trod] at h2
    | succ n =>
    obtain ⟨hl, hg⟩ := rd_struct Try.underlying112 (cellsOf_of sz112) h2
    obtain ⟨r0, r1, r2, rfl⟩ := cells3 hl
    obtain ⟨y0, a0, _⟩ := hg 0 4 0 1 rfl (cellsOf_of sz4)
    obtain ⟨y1, a1, _⟩ := hg 1 9 1 1 rfl (cellsOf_of sz9)
    obtain ⟨y2, a2, _⟩ := hg 2 3 2 1 rfl (cellsOf_of sz3)
    simp only [List.drop_succ_cons, List.drop_zero, List.take_succ_cons, List.take_zero] at a0 a1 a2
    obtain ⟨v0, e⟩ := rd_bool Try.underlying4 a0
    simp only [List.cons.injEq, and_true] at e; subst e
    obtain ⟨v1, e, _⟩ := rd_string Try.underlying9 a1
    simp only [List.cons.injEq, and_true] at e; subst e
    obtain ⟨v2, e⟩ := rd_int Try.underlying3 a2
    simp only [List.cons.injEq, and_true] at e; subst e
    exact ⟨⟨v0, v1, v2⟩, h1⟩
  subst hl
  exact ⟨s, l, rfl, b, o, hs, hp⟩

/-- a list of changes -/
theorem rd22 {n : Nat} {cs : List Value} {x : DataW H × List MemPlace} (h : DataW.trod enc Try.prog w base spare held n 22 cs = some x) (hN : uptoBulk x.1 ≤ 1048576) :
    ∃ s l, cs = [s] ∧ Chs w s l ∧ l.length ≤ 1048576 ∧ ∀ c ∈ l, Fine c.old ∧ Fine c.new := by
  cases n with
  | zero => simp [DataW.trod] at h
  | succ n =>
  obtain ⟨s, len, b, o, rfl, hs, hb, hel⟩ := rd_slice Try.underlying22 (cellsOf_of sz35) (by omega) h
  obtain ⟨l, hl, hp⟩ := list_of (p := fun i (c : Ch) => (∃ r, RowAt w b (o + i * 29) r ∧ Chg w c r) ∧ Fine c.old ∧ Fine c.new) len fun i hi => by
    obtain ⟨r, y, hr, h1, h2, h3⟩ := hel i hi
    cases n with
    | zero => simp [DataW.trod] at h2
    | succ n =>
    obtain ⟨hl, hg⟩ := rd_struct Try.underlying35 (cellsOf_of sz35) h2
    obtain ⟨r0, r1, r2, r', rfl, hl'⟩ := cells29 hl
    obtain ⟨y0, a0, _⟩ := hg 0 3 0 1 rfl (cellsOf_of sz3)
    obtain ⟨y1, a1, _⟩ := hg 1 24 1 1 rfl (cellsOf_of sz24)
    obtain ⟨y2, a2, _⟩ := hg 2 3 2 1 rfl (cellsOf_of sz3)
    obtain ⟨y3, a3, u3⟩ := hg 3 33 3 13 rfl (cellsOf_of sz33)
    obtain ⟨y4, a4, u4⟩ := hg 4 33 16 13 rfl (cellsOf_of sz33)
    simp only [List.drop_succ_cons, List.drop_zero, List.take_succ_cons, List.take_zero] at a0 a1 a2 a3 a4
    rw [List.take_of_length_le (l := List.drop 13 r') (by simp; omega)] at a4
    obtain ⟨op, e⟩ := rd_int Try.underlying3 a0
    simp only [List.cons.injEq, and_true] at e; subst e
    obtain ⟨ps, pl, e, hp⟩ := rd24 a1
    simp only [List.cons.injEq, and_true] at e; subst e
    obtain ⟨pos, e⟩ := rd_int Try.underlying3 a2
    simp only [List.cons.injEq, and_true] at e; subst e
    obtain ⟨v3, w3, z3⟩ := rd33 _ _ _ a3
    obtain ⟨v4, w4, z4⟩ := rd33 _ _ _ a4
    exact ⟨⟨op, pl, pos, v3, v4⟩, ⟨_, h1, _, r'.take 13, r'.drop 13, by rw [List.take_append_drop], hp, w3, w4⟩, fun d => szd_mono (by omega) d _ (z3 d), fun d => szd_mono (by omega) d _ (z4 d)⟩
  subst hl
  exact ⟨s, l, rfl, ⟨b, o, hs, fun i c hc => (hp i c hc).1⟩, by omega, fun c hc => by
    obtain ⟨i, hi⟩ := List.getElem?_of_mem hc
    exact (hp i c hi).2⟩
end
end Go.Proofs.Ytmkihcdcgkdilaa
end
section
set_option linter.unusedVariables false
namespace Go.Proofs.Ytmkihcdcgkdilaa
open Go Go.Dk Go.RowKit
theorem agg13 {x : Value} (h : x.cells.toList.length = 13) : x = .agg (x.cells.toList).toArray := by
  cases x <;> first | rfl | (simp [Value.cells] at h)
theorem len_sum {α : Type} {f : α → Nat} (hf : ∀ x, 1 ≤ f x) : ∀ l : List α, l.length ≤ (l.map f).sum
  | [] => by simp
  | x :: l => by have := hf x; have := len_sum hf l; simp only [List.map_cons, List.sum_cons, List.length_cons]; omega
theorem mem_sum {α : Type} {f : α → Nat} : ∀ (l : List α) (x : α), x ∈ l → f x ≤ (l.map f).sum
  | y :: l, x, h => by
    simp only [List.map_cons, List.sum_cons]
    rcases List.mem_cons.1 h with rfl | h
    · omega
    · have := mem_sum (f := f) l x h; omega
theorem nw_tsz (m : Nat) : ∀ (d : Nat) (v : V), deep d v → tsz d v ≤ m → ∀ k, nw m k v
  | 0, _, h, _, _ => h.elim
  | d + 1, v, h, ht, 0 => trivial
  | d + 1, v, h, ht, k + 1 => by
    simp only [tsz] at ht
    refine ⟨?_, fun kv hk => nw_tsz m d kv.2 (h.2 kv hk) ?_ k⟩
    · have := len_sum (f := fun kv : ByteArray × V => tsz d kv.2) (fun kv => tsz_pos d kv.2) v.fields
      omega
    · have := mem_sum (f := fun kv : ByteArray × V => tsz d kv.2) v.fields kv hk
      omega
theorem good_valid (v : V) (h1 : okd 48 v) (h2 : deep 60 v) (h3 : tsz 60 v ≤ 100) (h4 : Fine v) : Gd 48 100 v := ⟨h1, h4, nw_tsz 100 60 v h2 h3⟩
end Go.Proofs.Ytmkihcdcgkdilaa
end
section
namespace Go.Proofs.Ytmkihcdcgkdilaa
open Go Go.Dk Go.RowKit
set_option linter.unusedSimpArgs false
set_option linter.unusedVariables false
attribute [local irreducible] Go.wpList Go.Code.wp Go.bodyPost Go.wpStill Go.wpQuiet
theorem mkB_mem {B : List Ch} {c : Ch} (h : c ∈ MkB B) : c ∈ B := by
  unfold MkB at h
  split at h
  · cases h
  · exact h

set_option maxRecDepth 10000 in
theorem c40 (E : V → V → Bool) (hE : ∀ x y, E x y = true ↔ canon x = canon y) (a b : V) (ra rb : List Value) (w0 : World) (hva : Val w0 a ra) (hvb : Val w0 b rb) (hoa : okd 48 a) (hob : okd 48 b) (hfa1 : Fine a) (hfb1 : Fine b) (hnar : Nar 48 a b) (hnb : (btw E 48 [] a b).length ≤ 1048576) : Fc Try.prog 40 [.agg ra.toArray, .agg rb.toArray] w0 (fun x w' => ∃ s, x = .tuple #[s, .int .i64 (MkE (btw E 48 [] a b))] ∧ Chs w' s (MkB (btw E 48 [] a b))) := by
  refine ret_enter Try.func40 rfl Try.ntmps40 rfl ?_
  have cx := Ctx.start w0
  refine wp_seq ?_
  refine wp_region_lit ?_
  refine s_box cx rfl rfl rfl rfl rfl ?_; intro b2 w cx hb2 hw2
  refine s_box cx rfl rfl rfl rfl rfl ?_; intro b3 w cx hb3 hw3
  refine s_val rfl rfl (v_assign rfl rfl) ?_
  refine s_val rfl rfl (v_assign rfl rfl) ?_
  refine wpList_nil ?_
  refine wp_seq ?_
  refine wp_region_lit ?_
  refine s_val rfl rfl (v_load rfl rfl Try.underlying33 rfl sz33 (cx.row 1 rfl) hva.len) ?_
  refine s_val rfl rfl (v_load rfl rfl Try.underlying33 rfl sz33 (cx.row 0 rfl) hvb.len) ?_
  have hz : Fz w0 [] [] w [(b3, .cells rb.toArray 33), (b2, .cells ra.toArray 33)] [] := (Fz.new hb2 hw2).trans (Fz.new hb3 hw3)
  replace hz := hz.trans (Fz.nilRow 35 29)
  replace cx := cx.nilRow 35 29
  refine s_callR rfl rfl (runs_fn Try.func65 rfl rfl rfl rfl) (c65 E hE 48 w0 _ _ (.slice none 0 0) 0 [] [] _ a b _ _ _ cx PthA.nil (hz.rep (rep0 hva)) (hz.rep (rep0 hvb)) hoa hob hfa1 hfb1 hnar (by simp) (by omega) (by omega)) ?_; intro q9 w hp9
  obtain ⟨S2, rs2, hsh2, cx, hz2, hcf2⟩ := hp9
  obtain ⟨qa, qc, rfl, _⟩ := cx.ownRow
  refine s_val rfl rfl (v_assign rfl rfl) ?_
  refine wpList_nil ?_
  refine wp_seq ?_
  refine wp_seq ?_
  refine wp_region_lit ?_
  refine s_val rfl rfl (v_move rfl rfl) ?_
  refine s_val rfl rfl (v_lenSlice rfl rfl Try.underlying22) ?_
  refine s_val rfl rfl (v_cmp rfl rfl rfl rfl) ?_
  refine wpList_nil ?_
  refine c_split rfl (fun hc12 => ?_) (fun hc12 => ?_)
  · skip
    have hc13 := of_decide_eq_true hc12
    refine wp_seq ?_
    refine wp_region_lit ?_
    refine s_val rfl rfl (v_assign rfl rfl) ?_
    refine s_val rfl rfl (v_assign rfl rfl) ?_
    refine wpList_nil ?_
    refine wp_ret ?_
    refine ret_tmp2 Try.results40 rfl rfl ?_
    have hm : 4096 < (btw E 48 [] a b).length := sho_many hsh2 (by omega)
    have hE1 : MkE (btw E 48 [] a b) = 10 := if_pos hm
    have hB1 : MkB (btw E 48 [] a b) = [] := if_pos hm
    exact ⟨cx.ext, .slice none 0 0, by rw [hE1]; rfl, by rw [hB1]; exact chs_nil⟩
  · skip
    have hc13 := of_decide_eq_false hc12
    refine wp_skip ?_
    refine wp_seq ?_
    refine wp_region_lit ?_
    refine s_val rfl rfl (v_move rfl rfl) ?_
    refine s_val rfl rfl (v_assign rfl rfl) ?_
    refine s_val rfl rfl (v_assign rfl rfl) ?_
    refine wpList_nil ?_
    refine wp_ret ?_
    refine ret_tmp2 Try.results40 rfl rfl ?_
    have hm : ¬ 4096 < (btw E 48 [] a b).length := fun h => by
      have := sho_few hsh2 (by omega)
      rw [← this] at h; omega
    have hE1 : MkE (btw E 48 [] a b) = 0 := if_neg hm
    have hB1 : MkB (btw E 48 [] a b) = btw E 48 [] a b := if_neg hm
    refine ⟨cx.ext, .slice qa (0 + S2.length) qc, by rw [hE1]; rfl, ?_⟩
    rw [hB1]
    rw [← sho_few hsh2 (by omega)]
    exact chs_of cx (by omega) (by simp) hcf2

set_option maxRecDepth 10000 in
theorem c41 (E : V → V → Bool) (hE : ∀ x y, E x y = true ↔ canon x = canon y) (a b : V) (ra rb : List Value) (w0 : World) (hva : Val w0 a ra) (hvb : Val w0 b rb) (hoa : okd 48 a) (hob : okd 48 b) (hfa1 : Fine a) (hfb1 : Fine b) (hnar : Nar 48 a b) (hnb : (btw E 48 [] a b).length ≤ 1048576) : Fc Try.prog 41 [.agg ra.toArray, .agg rb.toArray] w0 (fun x w' => ∃ s, x = .tuple #[s, .int .i64 (MkE (btw E 48 [] a b))] ∧ Chs w' s (MkB (btw E 48 [] a b))) := by
  refine ret_enter Try.func41 rfl Try.ntmps41 rfl ?_
  have cx := Ctx.start w0
  refine wp_seq ?_
  refine wp_region_lit ?_
  refine s_box cx rfl rfl rfl rfl rfl ?_; intro b2 w cx hb2 hw2
  refine s_box cx rfl rfl rfl rfl rfl ?_; intro b3 w cx hb3 hw3
  refine s_val rfl rfl (v_assign rfl rfl) ?_
  refine s_val rfl rfl (v_assign rfl rfl) ?_
  refine wpList_nil ?_
  refine wp_seq ?_
  refine wp_region_lit ?_
  refine s_val rfl rfl (v_load rfl rfl Try.underlying33 rfl sz33 (cx.row 1 rfl) hva.len) ?_
  refine s_val rfl rfl (v_load rfl rfl Try.underlying33 rfl sz33 (cx.row 0 rfl) hvb.len) ?_
  have hz : Fz w0 [] [] w [(b3, .cells rb.toArray 33), (b2, .cells ra.toArray 33)] [] := (Fz.new hb2 hw2).trans (Fz.new hb3 hw3)
  refine s_callR rfl rfl (runs_fn Try.func66 rfl rfl rfl rfl) (c66 E hE 48 w0 _ _ [] _ a b _ _ _ cx PthA.nil (hz.rep (rep0 hva)) (hz.rep (rep0 hvb)) hoa hob hfa1 hfb1 hnar (by simp) (by omega) (by omega)) ?_; intro q9 w hp9
  obtain ⟨rs2, cx, hz2, hcf2⟩ := hp9
  obtain ⟨qa, qc, rfl, _⟩ := cx.ownRow
  refine s_val rfl rfl (v_assign rfl rfl) ?_
  refine wpList_nil ?_
  refine wp_seq ?_
  refine wp_seq ?_
  refine wp_region_lit ?_
  refine s_val rfl rfl (v_move rfl rfl) ?_
  refine s_val rfl rfl (v_lenSlice rfl rfl Try.underlying22) ?_
  refine s_val rfl rfl (v_cmp rfl rfl rfl rfl) ?_
  refine wpList_nil ?_
  refine c_split rfl (fun hc12 => ?_) (fun hc12 => ?_)
  · skip
    have hc13 := of_decide_eq_true hc12
    refine wp_seq ?_
    refine wp_region_lit ?_
    refine s_val rfl rfl (v_assign rfl rfl) ?_
    refine s_val rfl rfl (v_assign rfl rfl) ?_
    refine wpList_nil ?_
    refine wp_ret ?_
    refine ret_tmp2 Try.results41 rfl rfl ?_
    have hm : 4096 < (btw E 48 [] a b).length := by omega
    have hE1 : MkE (btw E 48 [] a b) = 10 := if_pos hm
    have hB1 : MkB (btw E 48 [] a b) = [] := if_pos hm
    exact ⟨cx.ext, .slice none 0 0, by rw [hE1]; rfl, by rw [hB1]; exact chs_nil⟩
  · skip
    have hc13 := of_decide_eq_false hc12
    refine wp_skip ?_
    refine wp_seq ?_
    refine wp_region_lit ?_
    refine s_val rfl rfl (v_move rfl rfl) ?_
    refine s_val rfl rfl (v_assign rfl rfl) ?_
    refine s_val rfl rfl (v_assign rfl rfl) ?_
    refine wpList_nil ?_
    refine wp_ret ?_
    refine ret_tmp2 Try.results41 rfl rfl ?_
    have hm : ¬ 4096 < (btw E 48 [] a b).length := by omega
    have hE1 : MkE (btw E 48 [] a b) = 0 := if_neg hm
    have hB1 : MkB (btw E 48 [] a b) = btw E 48 [] a b := if_neg hm
    refine ⟨cx.ext, .slice qa (0 + (btw E 48 [] a b).length) qc, by rw [hE1]; rfl, ?_⟩
    rw [hB1]
    exact chs_of cx (by omega) (by simp) hcf2

set_option maxRecDepth 10000 in
set_option maxHeartbeats 6400000 in
theorem c14 (av bv : V) (ra rb : List Value) (w0 : World) (ha : Val w0 av ra) (hb : Val w0 bv rb) (hfa : Fine av) (hfb : Fine bv) : Fc Try.prog 14 [.agg ra.toArray, .agg rb.toArray] w0 (IsB fun b => b = true) := by
  obtain ⟨E, hE⟩ := classic_eqB
  refine ret_enter Try.func14 rfl Try.ntmps14 rfl ?_
  have cx := Ctx.start w0
  refine wp_seq ?_
  refine wp_region_lit ?_
  refine s_box cx rfl rfl rfl rfl rfl ?_; intro b2 w cx hb2 hw2
  refine s_box cx rfl rfl rfl rfl rfl ?_; intro b3 w cx hb3 hw3
  refine s_val rfl rfl (v_assign rfl rfl) ?_
  refine wpList_nil ?_
  refine wp_seq ?_
  refine wp_seq ?_
  refine wp_region_lit ?_
  refine s_val rfl rfl (v_load rfl rfl Try.underlying33 rfl sz33 (cx.row 1 rfl) ha.len) ?_
  refine s_fnB cx (c17 _ _ _ (ha.up cx.ext) hfa) Try.func17 rfl rfl rfl rfl rfl rfl ?_; intro q10 w cx hw10 hp10
  refine s_val rfl rfl (v_not rfl rfl) ?_
  refine s_val rfl rfl (v_move rfl rfl) ?_
  refine s_gval rfl rfl rfl (by first | exact w_ff rfl | exact w_gf rfl) (fun hc => v_load rfl rfl Try.underlying33 rfl sz33 (cx.row 0 rfl) hb.len) ?_
  refine s_gfnB cx rfl rfl rfl (by first | exact w_ff rfl | exact w_gf rfl) (fun hc => c17 _ _ _ (hb.up cx.ext) hfb) Try.func17 rfl rfl rfl (fun hc => (cons_eq (gve hc rfl) rfl)) ?_; intro q14 w cx hw14 hp14
  refine s_gval rfl rfl rfl (by first | exact w_ff rfl | exact w_gf rfl) (fun hc => v_not rfl (by first | exact gve hc rfl | exact gve (and_l hc) rfl | exact gve (and_l (and_l hc)) rfl | rfl)) ?_
  refine s_val rfl rfl (v_or rfl rfl rfl rfl) ?_
  refine wpList_nil ?_
  refine c_split rfl (fun hc16 => ?_) (fun hc16 => ?_)
  · skip
    skip
    refine wp_seq ?_
    refine wp_region_lit ?_
    refine s_val rfl rfl (v_assign rfl rfl) ?_
    refine wpList_nil ?_
    refine wp_ret ?_
    refine ret_tmp Try.results14 rfl ?_
    exact ⟨cx.ext, _, rfl, rfl⟩
  · skip
    skip
    have hq : q10 = true ∧ q14 = true := by
      cases q10 <;> cases q14 <;> simp_all
    obtain ⟨rfl, rfl⟩ := hq
    have OKA := okv_of (hp10 rfl)
    have OKB := okv_of (hp14 rfl rfl)
    have h1 := btw_few E 48 [] av bv OKA.ok
    have h2 := OKA.sz48
    have h3 := OKA.sz
    have h4 := OKB.sz48
    have h5 := OKB.sz
    have hnar := nar_small 48 av bv (by omega) (by omega)
    have hO1 : ∃ B, B = btw E 48 [] av bv := ⟨_, rfl⟩
    obtain ⟨B, hB⟩ := hO1
    have hBg := btw_good E 48 [] av bv hfa hfb
    have hBl : (MkB (btw E 48 [] av bv)).length ≤ 1048576 := by
      unfold MkB
      split
      · exact Nat.zero_le _
      · omega
    refine wp_skip ?_
    refine wp_seq ?_
    refine wp_region_lit ?_
    refine s_val rfl rfl (v_load rfl rfl Try.underlying33 rfl sz33 (cx.row 1 rfl) ha.len) ?_
    refine s_val rfl rfl (v_load rfl rfl Try.underlying33 rfl sz33 (cx.row 0 rfl) hb.len) ?_
    refine s_fn cx (c40 E hE av bv _ _ _ (ha.up cx.ext) (hb.up cx.ext) OKA.ok OKB.ok hfa hfb hnar (by omega)) Try.func40 rfl rfl rfl rfl rfl rfl ?_; intro q20 w cx hw20 hp20
    obtain ⟨s1, rfl, hs1⟩ := hp20
    refine s_val rfl rfl (v_move rfl rfl) ?_
    refine s_val rfl rfl (v_extract rfl rfl rfl) ?_
    refine s_val rfl rfl (v_extract rfl rfl rfl) ?_
    refine s_val rfl rfl (v_assign rfl rfl) ?_
    refine s_val rfl rfl (v_assign rfl rfl) ?_
    refine wpList_nil ?_
    refine wp_seq ?_
    refine wp_region_lit ?_
    refine s_val rfl rfl (v_load rfl rfl Try.underlying33 rfl sz33 (cx.row 1 rfl) ha.len) ?_
    refine s_val rfl rfl (v_load rfl rfl Try.underlying33 rfl sz33 (cx.row 0 rfl) hb.len) ?_
    refine s_fn cx (c41 E hE av bv _ _ _ (ha.up cx.ext) (hb.up cx.ext) OKA.ok OKB.ok hfa hfb hnar (by omega)) Try.func41 rfl rfl rfl rfl rfl rfl ?_; intro q26 w cx hw26 hp26
    obtain ⟨s2, rfl, hs2⟩ := hp26
    replace hs1 := hs1.up hw26
    rw [← hB] at hs1 hs2 hBl hBg ⊢
    refine s_val rfl rfl (v_move rfl rfl) ?_
    refine s_val rfl rfl (v_extract rfl rfl rfl) ?_
    refine s_val rfl rfl (v_extract rfl rfl rfl) ?_
    refine s_val rfl rfl (v_assign rfl rfl) ?_
    refine s_val rfl rfl (v_assign rfl rfl) ?_
    refine wpList_nil ?_
    refine wp_seq ?_
    refine wp_region_lit ?_
    refine s_val rfl rfl (v_move rfl rfl) ?_
    refine s_val rfl rfl (v_move rfl rfl) ?_
    refine s_val rfl rfl (v_cmp rfl rfl rfl rfl) ?_
    refine s_val rfl rfl (v_move rfl rfl) ?_
    refine s_gval rfl rfl rfl (by first | exact w_tt rfl | exact w_gt rfl) (fun hc => v_move rfl (by first | exact gve hc rfl | exact gve (and_l hc) rfl | exact gve (and_l (and_l hc)) rfl | rfl)) ?_
    refine s_gval rfl rfl rfl (by first | exact w_tt rfl | exact w_gt rfl) (fun hc => v_move rfl (by first | exact gve hc rfl | exact gve (and_l hc) rfl | exact gve (and_l (and_l hc)) rfl | rfl)) ?_
    refine s_gfnB cx rfl rfl rfl (by first | exact w_tt rfl | exact w_gt rfl) (fun hc => c42 (MkB B) _ _ _ hs1 hs2 hBl (fun c hc => by
      have := hBg c (mkB_mem hc)
      refine ⟨?_, this.2⟩
      have h9 := this.1
      simp at h9
      omega)) Try.func42 rfl rfl rfl (fun hc => cons_eq (gve hc rfl) (cons_eq (gve hc rfl) rfl)) ?_; intro q35 w cx hw35 hp35
    refine s_val rfl rfl (v_and rfl rfl rfl rfl) ?_
    refine s_val rfl rfl (v_assign rfl rfl) ?_
    refine wpList_nil ?_
    refine wp_ret ?_
    refine ret_tmp Try.results14 rfl ?_
    refine ⟨cx.ext, _, rfl, ?_⟩
    show ((MkE B == MkE B) && q35) = true
    rw [hp35 (by show (MkE B == MkE B) = true; rw [beq_self_eq_true]), beq_self_eq_true]; rfl
end Go.Proofs.Ytmkihcdcgkdilaa
end
section
namespace Go.Proofs.Ytmkihcdcgkdilaa.diffMakes
open Go Go.Dk Go.ChangeShapes Go.WideShapes Go.ChangeAt Go.RowKit
set_option linter.unusedVariables false

theorem own : ownKnob Try.prog.godebug = none := by kernel_rfl
theorem laidOut : laidOutB Try.prog = true := by kernel_rfl

set_option maxRecDepth 100000 in
theorem lifted (os : Os) (started : os.Started) (H : Type) (enc : TypeId × Value → H) (F : Stop.Interp) :
    ReturnsInHanded {} Try.checked os 14 .any ((Rows.OpenSpec.upto Rows.diffMakesSpec).pre6 enc Try.prog Try.f14 Rows.diffMakesUptoRow.domain false) (((Rows.OpenSpec.upto Rows.diffMakesSpec).at F).post enc Try.prog Try.f14 false true false false) := by
  refine returnsInHanded_of_cond (C := Try.checked) (s := Rows.OpenSpec.upto Rows.diffMakesSpec) (k := Rows.uptoSmall) rfl own started (by kernel_rfl) Try.func14
    (OpenSpec.witness (enc := enc) (C := Try.checked) (s := Rows.OpenSpec.upto Rows.diffMakesSpec) (k := Rows.uptoSmall) rfl false ⟨#[], #[.agg #[.int .i64 0, .bool false, .bool false, .string ⟨#[]⟩, .int .i64 0, .int .i64 0, .int .i64 0, .int .i64 0, .int .i64 0, .string ⟨#[]⟩, .slice none 0 0, .slice none 0 0, .slice none 0 0], .agg #[.int .i64 0, .bool false, .bool false, .string ⟨#[]⟩, .int .i64 0, .int .i64 0, .int .i64 0, .int .i64 0, .int .i64 0, .string ⟨#[]⟩, .slice none 0 0, .slice none 0 0, .slice none 0 0]], []⟩ 8 (by kernel_rfl) (by kernel_rfl) (by kernel_rfl)
      (x := ([.agg [.lit (.int .i64 0), .lit (.bool false), .agg [.lit (.bool false), .lit (.string []), .lit (.int .i64 0)], .agg [.lit (.int .i64 0), .lit (.int .i64 0), .lit (.int .i64 0), .lit (.int .i64 0)], .lit (.string []), .nil, .nil, .nil], .agg [.lit (.int .i64 0), .lit (.bool false), .agg [.lit (.bool false), .lit (.string []), .lit (.int .i64 0)], .agg [.lit (.int .i64 0), .lit (.int .i64 0), .lit (.int .i64 0), .lit (.int .i64 0)], .lit (.string []), .nil, .nil, .nil]], [], [])) (by kernel_rfl) rfl (by kernel_rfl)) ?_
  intro W base args ds gs before hval hW _ hk _
  have hW' := hW
  obtain ⟨p, q, hA0, hV, rfl, hfz, hnd⟩ := hW
  have hA : DataW.TrodAll enc Try.prog W 0 (fun _ => true) true Try.f14.params.toList args.toList ds p := hA0
  rw [Try.params14] at hA hval
  obtain ⟨v0, vs0, d0, ds0, p0, q0, hargs, rfl, rfl, h0, r0⟩ := trodAll_cons hA
  obtain ⟨v1, vs1, d1, ds1, p1, q1, rfl, rfl, rfl, h1, r1⟩ := trodAll_cons r0
  obtain ⟨rfl, rfl, rfl⟩ := trodAll_nil r1
  obtain rfl : args = #[v0, v1] := by cases args; simp_all
  obtain ⟨rfl, rfl⟩ := trodVars_none hV
  have k0 := h0
  have lt0 : ∀ x ∈ p0, x.block < W.heap.size := by obtain ⟨m, hm⟩ := k0; exact DataW.trod_lt m _ _ _ hm
  obtain ⟨m0, t0⟩ := h0
  have k1 := h1
  have lt1 : ∀ x ∈ p1, x.block < W.heap.size := by obtain ⟨m, hm⟩ := k1; exact DataW.trod_lt m _ _ _ hm
  obtain ⟨m1, t1⟩ := h1
  have hbulk : Rows.uptoBulk d0 + Rows.uptoBulk d1 ≤ 1048576 := by
    have := of_decide_eq_true hk
    simp only [List.append_nil, Rows.uptoBulkAll] at this
    omega
  obtain ⟨u0, hu0, hz0⟩ := rd33 _ _ _ t0
  obtain ⟨r0, rfl, hr0⟩ : ∃ r, v0 = .agg r.toArray ∧ Val W u0 r := ⟨_, agg13 hu0.len, hu0⟩
  have hf0 : Fine u0 := fun d => szd_mono (by show Rows.uptoBulk d0 ≤ 1048576; omega) d _ (hz0 d)
  obtain ⟨u1, hu1, hz1⟩ := rd33 _ _ _ t1
  obtain ⟨r1, rfl, hr1⟩ : ∃ r, v1 = .agg r.toArray ∧ Val W u1 r := ⟨_, agg13 hu1.len, hu1⟩
  have hf1 : Fine u1 := fun d => szd_mono (by show Rows.uptoBulk d1 ≤ 1048576; omega) d _ (hz1 d)
  clear hA0
  refine Calls.mono (c14 u0 u1 _ _ W hr0 hr1 hf0 hf1) fun e W' ⟨r, he, bel, b, hr, hb⟩ => ?_
  subst hr hb he
  exact ⟨_, rfl, _, _, _, [], _, [], hW', trodAll_mk1 (shut_bool Try.underlying4 _), (trodAll_cons_mk (Below.trod laidOut (by kernel_rfl) (of_decide_eq_true (by kernel_rfl)) k0 bel lt0) (trodAll_cons_mk (Below.trod laidOut (by kernel_rfl) (of_decide_eq_true (by kernel_rfl)) k1 bel lt1) trodAll_mk0)), rfl, bel.frame _, fun h => by cases h⟩

theorem over : Rows.diffMakesUptoRow.holds Try.pinned (Rows.OpenSpec.upto Rows.diffMakesSpec) :=
  OpenClaim.holds_of_cond 14 Try.f14 rfl rfl rfl rfl rfl rfl rfl ⟨rfl, rfl, rfl, rfl, rfl⟩ rfl rfl rfl rfl rfl (by kernel_rfl) Try.func14 (by kernel_rfl)
    (of_decide_eq_true (by kernel_rfl)) (by unfold Func.isWrapper; first | (rw [if_pos (by decide +kernel)]; kernel_rfl) | (rw [if_neg (by decide +kernel)]; exact ⟨rfl, rfl⟩))
    (fun os started H enc _ F => lifted os started H enc F)

theorem proved : Rows.DiffMakesUptoSaid := over
end Go.Proofs.Ytmkihcdcgkdilaa.diffMakes
end
