/-
  Longest common subsequences, as a plain table, and the chosen one.
-/
import Derived.Test.YtmkihcdcgkdilaaDa
set_option linter.unusedVariables false
set_option linter.unusedSimpArgs false
namespace Go.Dk
open Go Go.RowKit
def lcsR (E : V → V → Bool) (x : V) (f : List V → Nat) : List V → Nat
  | [] => 0
  | y :: ys => if E x y then max (max (lcsR E x f ys) (f (y :: ys))) (f ys + 1) else max (lcsR E x f ys) (f (y :: ys))
def lcs (E : V → V → Bool) : List V → List V → Nat
  | [], _ => 0
  | x :: xs, ys => lcsR E x (lcs E xs) ys
/-- of a from i on and of b from k on -/
def mst (E : V → V → Bool) (a b : List V) (i k : Nat) : Nat := lcs E (a.drop i) (b.drop k)
theorem mst_n (E : V → V → Bool) (a b : List V) {i : Nat} (k : Nat) (h : a.length ≤ i) : mst E a b i k = 0 := by
  unfold mst; rw [List.drop_eq_nil_of_le h]; rfl
theorem mst_m (E : V → V → Bool) (a b : List V) (i : Nat) {k : Nat} (h : b.length ≤ k) : mst E a b i k = 0 := by
  unfold mst; rw [List.drop_eq_nil_of_le h]
  cases a.drop i <;> rfl
theorem mst_step (E : V → V → Bool) (a b : List V) {i k : Nat} (hi : i < a.length) (hk : k < b.length) :
    mst E a b i k = if E a[i] b[k] then max (max (mst E a b i (k + 1)) (mst E a b (i + 1) k)) (mst E a b (i + 1) (k + 1) + 1) else max (mst E a b i (k + 1)) (mst E a b (i + 1) k) := by
  unfold mst
  rw [List.drop_eq_getElem_cons hi]
  simp only [lcs]
  conv => lhs; rw [List.drop_eq_getElem_cons hk]
  simp only [lcsR]
  rw [← List.drop_eq_getElem_cons hk]
theorem mst_le (E : V → V → Bool) (a b : List V) : ∀ (d i k : Nat), a.length - i = d → mst E a b i k ≤ a.length - i := by
  intro d
  induction d with
  | zero => intro i k h; rw [mst_n E a b k (by omega)]; omega
  | succ d ih =>
    intro i k h
    have hi : i < a.length := by omega
    have key : ∀ (e k : Nat), b.length - k = e → mst E a b i k ≤ a.length - i := by
      intro e
      induction e with
      | zero => intro k hk; rw [mst_m E a b i (by omega)]; omega
      | succ e ihe =>
        intro k hk
        have h1 := ihe (k + 1) (by omega)
        have h2 := ih (i + 1) k (by omega)
        have h3 := ih (i + 1) (k + 1) (by omega)
        rw [mst_step E a b hi (by omega)]
        split <;> omega
    exact key _ k rfl
/-- the first partner of a's i-th element from j on -/
def prt (E : V → V → Bool) (a b : List V) (i j : Nat) (k : Nat) : Bool := decide (j ≤ k) && (E (a.getD i nulV) (b.getD k nulV) && decide (mst E a b (i + 1) (k + 1) + 1 = mst E a b i j))
def sel (E : V → V → Bool) (a b : List V) : Nat → Nat → Nat → List (Nat × Nat)
  | 0, _, _ => []
  | d + 1, i, j => if j < b.length ∧ mst E a b i j ≠ 0 then
      match (List.range b.length).find? (prt E a b i j) with
      | some k => (i, k) :: sel E a b d (i + 1) (k + 1)
      | none => sel E a b d (i + 1) j
    else []
theorem find_first {n k : Nat} {p : Nat → Bool} (hk : k < n) (hp : p k = true) (h : ∀ j, j < k → p j = false) : (List.range n).find? p = some k := by
  rw [List.find?_eq_some_iff_append]
  refine ⟨hp, List.range k, (List.range (n - k - 1)).map (fun x => k + 1 + x), ?_, fun j hj => by rw [h j (by simpa using hj)]; rfl⟩
  have e1 : n = k + (1 + (n - k - 1)) := by omega
  conv => lhs; rw [e1]
  rw [List.range_add, List.range_add]
  simp [Function.comp_def]
  intro a _
  omega
theorem find_no {n : Nat} {p : Nat → Bool} (h : ∀ j, j < n → p j = false) : (List.range n).find? p = none := by
  rw [List.find?_eq_none]
  intro j hj
  rw [h j (by simpa using hj)]; simp
/-- cells of whole numbers -/
def mkI (F : Nat → Int) (n : Nat) : List Value := (List.range n).map fun t => .int .i64 (F t)
def mkB (G : Nat → Bool) (n : Nat) : List Value := (List.range n).map fun t => .bool (G t)
theorem mkI_len (F : Nat → Int) (n : Nat) : (mkI F n).length = n := by simp [mkI]
theorem mkB_len (G : Nat → Bool) (n : Nat) : (mkB G n).length = n := by simp [mkB]
theorem mkI_at {F : Nat → Int} {n t : Nat} (h : t < n) : (mkI F n)[t]? = some (.int .i64 (F t)) := by simp [mkI, h]
theorem mkB_at {G : Nat → Bool} {n t : Nat} (h : t < n) : (mkB G n)[t]? = some (.bool (G t)) := by simp [mkB, h]
theorem mkI_set {F : Nat → Int} {n t : Nat} {v : Int} : (mkI F n).set t (.int .i64 v) = mkI (fun u => if u = t then v else F u) n := by
  apply List.ext_getElem?
  intro j
  simp only [mkI, List.getElem?_set, List.getElem?_map, List.getElem?_range, List.length_map, List.length_range]
  by_cases hj : t = j
  · subst hj
    by_cases hn : t < n <;> simp [hn]
  · by_cases hn : j < n <;> simp [hj, hn, Ne.symm hj]
theorem mkB_set {G : Nat → Bool} {n t : Nat} {v : Bool} : (mkB G n).set t (.bool v) = mkB (fun u => if u = t then v else G u) n := by
  apply List.ext_getElem?
  intro j
  simp only [mkB, List.getElem?_set, List.getElem?_map, List.getElem?_range, List.length_map, List.length_range]
  by_cases hj : t = j
  · subst hj
    by_cases hn : t < n <;> simp [hn]
  · by_cases hn : j < n <;> simp [hj, hn, Ne.symm hj]
theorem mkI_zero (n : Nat) : List.replicate n (Value.int .i64 0) = mkI (fun _ => 0) n := by
  apply List.ext_getElem <;> simp [mkI]
theorem mkB_zero (n : Nat) : List.replicate n (Value.bool false) = mkB (fun _ => false) n := by
  apply List.ext_getElem <;> simp [mkB]
theorem ix_lt {n m i k : Nat} (hi : i ≤ n) (hk : k ≤ m) : i * (m + 1) + k < (n + 1) * (m + 1) := by
  have := Nat.mul_le_mul_right (m + 1) (show i + 1 ≤ n + 1 by omega)
  rw [Nat.add_mul, Nat.one_mul] at this
  omega
theorem ix_inj {m i k i' k' : Nat} (hk : k < m) (hk' : k' < m) (h : i * m + k = i' * m + k') : i = i' ∧ k = k' := by
  have h1 : i = i' := by
    have e1 : (i * m + k) / m = i := by rw [Nat.mul_comm, Nat.mul_add_div (by omega), Nat.div_eq_of_lt hk]; rfl
    have e2 : (i' * m + k') / m = i' := by rw [Nat.mul_comm, Nat.mul_add_div (by omega), Nat.div_eq_of_lt hk']; rfl
    rw [← e1, h, e2]
  subst h1
  exact ⟨rfl, by omega⟩
/-- the table is right where it is done -/
def TabI (E : V → V → Bool) (a b : List V) (F : Nat → Int) (ii kk : Nat) : Prop := ∀ i k, i ≤ a.length → k ≤ b.length → (ii ≤ i ∨ i + 1 = ii ∧ kk ≤ k ∨ k = b.length) → F (i * (b.length + 1) + k) = (mst E a b i k : Int)
theorem TabI.start (E : V → V → Bool) (a b : List V) : TabI E a b (fun _ => 0) a.length b.length := fun i k hi hk h => by
  rcases h with h | h | h
  · rw [mst_n E a b k (by omega)]; rfl
  · rw [mst_m E a b i (by omega)]; rfl
  · rw [mst_m E a b i (by omega)]; rfl
theorem TabI.row {E : V → V → Bool} {a b : List V} {F : Nat → Int} {ii : Nat} (h : TabI E a b F (ii + 1) 0) (kk : Nat) (hk : b.length ≤ kk) : TabI E a b F ii kk := fun i k hi hk' hh => by
  rcases hh with hh | hh | hh
  · rcases Nat.eq_or_lt_of_le hh with e | hl
    · exact h i k hi hk' (.inr (.inl ⟨by omega, by omega⟩))
    · exact h i k hi hk' (.inl (by omega))
  · exact h i k hi hk' (.inr (.inr (by omega)))
  · exact h i k hi hk' (.inr (.inr hh))
theorem TabI.next {E : V → V → Bool} {a b : List V} {F : Nat → Int} {i k : Nat} (h : TabI E a b F (i + 1) (k + 1)) (hi : i < a.length) (hk : k < b.length) {v : Int} (hv : v = (mst E a b i k : Int)) : TabI E a b (fun u => if u = i * (b.length + 1) + k then v else F u) (i + 1) k := fun i' k' hi' hk' hh => by
  by_cases he : i' * (b.length + 1) + k' = i * (b.length + 1) + k
  · obtain ⟨rfl, rfl⟩ := ix_inj (by omega) (by omega) he
    simp only [if_pos]
    exact hv
  · simp only [if_neg he]
    refine h i' k' hi' hk' ?_
    rcases hh with hh | ⟨hh, hh2⟩ | hh
    · exact .inl hh
    · rcases Nat.eq_or_lt_of_le hh2 with e | hl
      · exfalso
        obtain rfl : i' = i := by omega
        subst e
        exact he rfl
      · exact .inr (.inl ⟨hh, by omega⟩)
    · exact .inr (.inr hh)
/-- which elements are equal, where that is known -/
def TabB (E : V → V → Bool) (a b : List V) (G : Nat → Bool) (ii kk : Nat) : Prop := ∀ i k, i < a.length → k < b.length → (ii ≤ i ∨ i + 1 = ii ∧ kk ≤ k) → G (i * b.length + k) = E (a.getD i nulV) (b.getD k nulV)
def ZerB (b : List V) (G : Nat → Bool) (ii kk : Nat) : Prop := ∀ i k, k < b.length → (i + 1 < ii ∨ i + 1 = ii ∧ k < kk) → G (i * b.length + k) = false
theorem TabB.row {E : V → V → Bool} {a b : List V} {G : Nat → Bool} {ii : Nat} (h : TabB E a b G (ii + 1) 0) : TabB E a b G ii b.length := fun i k hi hk hh => by
  rcases hh with hh | ⟨_, hh⟩
  · rcases Nat.eq_or_lt_of_le hh with e | hl
    · exact h i k hi hk (.inr ⟨by omega, by omega⟩)
    · exact h i k hi hk (.inl (by omega))
  · omega
theorem ZerB.row {b : List V} {G : Nat → Bool} {ii : Nat} (h : ZerB b G (ii + 1) 0) : ZerB b G ii b.length := fun i k hk hh => h i k hk (.inl (by omega))
theorem TabB.next {E : V → V → Bool} {a b : List V} {G : Nat → Bool} {i k : Nat} (h : TabB E a b G (i + 1) (k + 1)) (hk : k < b.length) (he : E (a.getD i nulV) (b.getD k nulV) = true) : TabB E a b (fun u => if u = i * b.length + k then true else G u) (i + 1) k := fun i' k' hi' hk' hh => by
  by_cases hx : i' * b.length + k' = i * b.length + k
  · obtain ⟨rfl, rfl⟩ := ix_inj hk' hk hx
    simp only [if_pos]; exact he.symm
  · simp only [if_neg hx]
    refine h i' k' hi' hk' (hh.imp id fun ⟨h1, h2⟩ => ⟨h1, ?_⟩)
    rcases Nat.eq_or_lt_of_le h2 with e | hl
    · exfalso
      obtain rfl : i' = i := by omega
      subst e; exact hx rfl
    · omega
theorem TabB.keep {E : V → V → Bool} {a b : List V} {G : Nat → Bool} {i k : Nat} (h : TabB E a b G (i + 1) (k + 1)) (hz : ZerB b G (i + 1) (k + 1)) (hk : k < b.length) (he : E (a.getD i nulV) (b.getD k nulV) = false) : TabB E a b G (i + 1) k := fun i' k' hi' hk' hh => by
  rcases hh with hh | ⟨h1, h2⟩
  · exact h i' k' hi' hk' (.inl hh)
  · rcases Nat.eq_or_lt_of_le h2 with e | hl
    · obtain rfl : i' = i := by omega
      subst e
      rw [he]; exact hz i' k hk (.inr ⟨rfl, by omega⟩)
    · exact h i' k' hi' hk' (.inr ⟨h1, by omega⟩)
theorem ZerB.next {b : List V} {G : Nat → Bool} {i k : Nat} (h : ZerB b G (i + 1) (k + 1)) (hk : k < b.length) : ZerB b (fun u => if u = i * b.length + k then true else G u) (i + 1) k := fun i' k' hk' hh => by
  have hx : ¬ i' * b.length + k' = i * b.length + k := fun e => by
    obtain ⟨rfl, rfl⟩ := ix_inj hk' hk e; omega
  simp only [if_neg hx]
  exact h i' k' hk' (hh.imp id fun ⟨h1, h2⟩ => ⟨h1, by omega⟩)
theorem ZerB.keep {b : List V} {G : Nat → Bool} {i k : Nat} (h : ZerB b G (i + 1) (k + 1)) : ZerB b G (i + 1) k := fun i' k' hk' hh => h i' k' hk' (hh.imp id fun ⟨h1, h2⟩ => ⟨h1, by omega⟩)
/-- a chosen pair, as cells -/
def prow (p : Nat) (q : Nat × Nat) : List Value := [.int .i64 ((p + q.1 : Nat) : Int), .int .i64 ((p + q.2 : Nat) : Int)]
theorem prow_len (p : Nat) (l : List (Nat × Nat)) : (l.flatMap (prow p)).length = l.length * 2 := by
  induction l with
  | nil => rfl
  | cons x l ih => rw [List.flatMap_cons, List.length_append, ih, List.length_cons]; show 2 + _ = _; omega
theorem sel_len (E : V → V → Bool) (a b : List V) : ∀ d i j, (sel E a b d i j).length ≤ d
  | 0, _, _ => by simp [sel]
  | d + 1, i, j => by
    unfold sel
    split
    · split
      · rename_i k _
        have := sel_len E a b d (i + 1) (k + 1)
        simp only [List.length_cons]; omega
      · have := sel_len E a b d (i + 1) j; omega
    · simp
end Go.Dk
