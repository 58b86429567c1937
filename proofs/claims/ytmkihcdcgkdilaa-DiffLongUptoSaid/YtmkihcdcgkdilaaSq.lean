/-
  Sorting by keys: plain lists.
-/
import Derived.Test.YtmkihcdcgkdilaaSp
set_option linter.unusedVariables false
set_option linter.unusedSimpArgs false
namespace Go.Dk
open Go

section
variable {α : Type} {lt : α → α → Prop}
theorem pw_idx {X : List α} (h : X.Pairwise lt) {i j : Nat} {x y : α} (hij : i < j) (hx : X[i]? = some x) (hy : X[j]? = some y) : lt x y := by
  obtain ⟨h1, rfl⟩ := List.getElem?_eq_some_iff.1 hx
  obtain ⟨h2, rfl⟩ := List.getElem?_eq_some_iff.1 hy
  exact List.pairwise_iff_getElem.1 h i j h1 h2 hij
theorem cross (ht : ∀ a b c, lt a b → lt b c → lt a c) {X Y : List α} (hX : X.Pairwise lt) (hY : Y.Pairwise lt) {s e : Nat} (h : s = 0 ∨ Y.length ≤ e ∨ ∃ x y, X[s - 1]? = some x ∧ Y[e]? = some y ∧ lt x y) :
    ∀ a ∈ X.take s, ∀ b ∈ Y.drop e, lt a b := by
  intro a ha b hb
  rcases h with rfl | h | ⟨x, y, hx, hy, hxy⟩
  · simp at ha
  · rw [List.drop_eq_nil_of_le h] at hb; cases hb
  · obtain ⟨i, hi⟩ := List.getElem?_of_mem ha
    obtain ⟨j, hj⟩ := List.getElem?_of_mem hb
    rw [List.getElem?_take] at hi
    rw [List.getElem?_drop] at hj
    split at hi
    · rename_i his
      have h1 : a = x ∨ lt a x := by
        by_cases e1 : i = s - 1
        · rw [e1, hx] at hi; exact .inl (Option.some.inj hi).symm
        · exact .inr (pw_idx hX (by omega) hi hx)
      have h2 : y = b ∨ lt y b := by
        by_cases e1 : j = 0
        · rw [e1, Nat.add_zero, hy] at hj; exact .inl (Option.some.inj hj)
        · exact .inr (pw_idx hY (by omega) hy hj)
      have h3 : lt a y := by
        rcases h1 with rfl | h1
        · exact hxy
        · exact ht _ _ _ h1 hxy
      rcases h2 with rfl | h2
      · exact h3
      · exact ht _ _ _ h3 h2
    · cases hi
theorem take_drop_lt {X : List α} (h : X.Pairwise lt) (s : Nat) : ∀ a ∈ X.take s, ∀ b ∈ X.drop s, lt a b := by
  have := h
  rw [← List.take_append_drop s X, List.pairwise_append] at this
  exact this.2.2
theorem perm4 (A B C D : List α) : ((A ++ C) ++ (B ++ D)).Perm ((A ++ B) ++ (C ++ D)) := by
  rw [List.append_assoc, List.append_assoc]
  refine List.Perm.append_left A ?_
  rw [← List.append_assoc, ← List.append_assoc]
  exact List.Perm.append_right D List.perm_append_comm
theorem merge2 (ht : ∀ a b c, lt a b → lt b c → lt a c) {X Y Z1 Z2 : List α} (hX : X.Pairwise lt) (hY : Y.Pairwise lt) {s e : Nat} (h1 : s = 0 ∨ Y.length ≤ e ∨ ∃ x y, X[s - 1]? = some x ∧ Y[e]? = some y ∧ lt x y)
    (h2 : e = 0 ∨ X.length ≤ s ∨ ∃ y x, Y[e - 1]? = some y ∧ X[s]? = some x ∧ lt y x) (p1 : Z1.Perm (X.take s ++ Y.take e)) (p2 : Z2.Perm (X.drop s ++ Y.drop e)) (s1 : Z1.Pairwise lt) (s2 : Z2.Pairwise lt) : (Z1 ++ Z2).Pairwise lt ∧ (Z1 ++ Z2).Perm (X ++ Y) := by
  constructor
  · rw [List.pairwise_append]
    refine ⟨s1, s2, fun a ha b hb => ?_⟩
    rw [p1.mem_iff, List.mem_append] at ha
    rw [p2.mem_iff, List.mem_append] at hb
    rcases ha with ha | ha <;> rcases hb with hb | hb
    · exact take_drop_lt hX s a ha b hb
    · exact cross ht hX hY h1 a ha b hb
    · exact cross ht hY hX h2 a ha b hb
    · exact take_drop_lt hY e a ha b hb
  · refine (p1.append p2).trans ?_
    have := perm4 (X.take s) (X.drop s) (Y.take e) (Y.drop e)
    rw [List.take_append_drop, List.take_append_drop] at this
    exact this
theorem set_mid (P S : List α) (x y : α) : (P ++ x :: S).set P.length y = P ++ y :: S := by
  rw [List.set_append, if_neg (by omega), Nat.sub_self]; rfl
theorem get_mid (P S : List α) (x : α) : (P ++ x :: S)[P.length]? = some x := by simp
/-- two elements change places -/
theorem sw_mid (P M S : List α) (x y : α) {i j : Nat} (hi : i = P.length) (hj : j = P.length + 1 + M.length) : ((P ++ x :: (M ++ y :: S)).set i y).set j x = P ++ y :: (M ++ x :: S) := by
  subst hi hj
  rw [set_mid]
  have e : P ++ y :: (M ++ y :: S) = (P ++ y :: M) ++ y :: S := by simp
  rw [e, show P.length + 1 + M.length = (P ++ y :: M).length by simp; omega, set_mid]
  simp
theorem sw_mid' (P M S : List α) (x y : α) {i j : Nat} (hi : i = P.length) (hj : j = P.length + 1 + M.length) : ((P ++ x :: (M ++ y :: S)).set j x).set i y = P ++ y :: (M ++ x :: S) := by
  rw [List.set_comm _ _ (by omega), sw_mid P M S x y hi hj]
theorem get_mid1 (P M S : List α) (x y : α) {i : Nat} (hi : i = P.length) : (P ++ x :: (M ++ y :: S))[i]? = some x := by subst hi; simp
theorem get_mid2 (P M S : List α) (x y : α) {j : Nat} (hj : j = P.length + 1 + M.length) : (P ++ x :: (M ++ y :: S))[j]? = some y := by
  subst hj
  have e : P ++ x :: (M ++ y :: S) = (P ++ x :: M) ++ y :: S := by simp
  rw [e, show P.length + 1 + M.length = (P ++ x :: M).length by simp; omega, get_mid]
theorem split_at {l : List α} {i : Nat} (h : i < l.length) : ∃ x, l[i]? = some x ∧ l = l.take i ++ x :: l.drop (i + 1) ∧ l.take (i + 1) = l.take i ++ [x] ∧ l.drop i = x :: l.drop (i + 1) := by
  refine ⟨l[i], List.getElem?_eq_getElem h, ?_, List.take_succ_eq_append_getElem h, List.drop_eq_getElem_cons h⟩
  rw [← List.drop_eq_getElem_cons h, List.take_append_drop]

/-- sorted pieces of s elements, the last one of at most s -/
inductive Chunks (lt : α → α → Prop) (s : Nat) : List α → Prop
  | last (l : List α) : l.length ≤ s → l.Pairwise lt → Chunks lt s l
  | cons (l r : List α) : l.length = s → l.Pairwise lt → Chunks lt s r → Chunks lt s (l ++ r)
theorem Chunks.uncons {s : Nat} {R : List α} (h : Chunks lt s R) (hl : s ≤ R.length) : ∃ l r, R = l ++ r ∧ l.length = s ∧ l.Pairwise lt ∧ Chunks lt s r := by
  cases h with
  | last l h1 h2 => exact ⟨R, [], by simp, by omega, h2, .last [] (by simp) List.Pairwise.nil⟩
  | cons l r h1 h2 h3 => exact ⟨l, r, rfl, h1, h2, h3⟩
theorem Chunks.one {s : Nat} {R : List α} (h : Chunks lt s R) (hl : R.length ≤ s) : R.Pairwise lt := by
  cases h with
  | last l h1 h2 => exact h2
  | cons l r h1 h2 h3 =>
    have : r = [] := List.eq_nil_of_length_eq_zero (by simp at hl; omega)
    subst this
    simpa using h2
end

/-! ### rows of fields -/
def rk : List Value → List UInt8
  | .string k :: _ => k.data.toList
  | _ => []
def Rw (r : List Value) : Prop := ∃ k c, r = .string k :: c ∧ c.length = 13 ∧ c.all (·.oneCell') = true
theorem Rw.len {r : List Value} (h : Rw r) : r.length = 14 := by obtain ⟨k, c, rfl, h, _⟩ := h; simp [h]
theorem Rw.one {r : List Value} (h : Rw r) : r.all (·.oneCell') = true := by obtain ⟨k, c, rfl, _, h⟩ := h; rw [List.all_cons, h]; rfl
def Lt (r s : List Value) : Prop := cmpL (rk r) (rk s) < 0
theorem Lt.trans (a b c : List Value) : Lt a b → Lt b c → Lt a c := cmpL_trans _ _ _
theorem Lt.of_not {r s : List Value} (h : rk r ≠ rk s) (hn : ¬ Lt r s) : Lt s r := by
  unfold Lt at *
  have h1 := cmpL_swap (rk r) (rk s)
  have h2 : cmpL (rk r) (rk s) ≠ 0 := fun e => h (cmpL_zero _ _ e)
  omega
theorem Lt.irrefl (r : List Value) : ¬ Lt r r := by unfold Lt; rw [cmpL_refl]; omega
/-- no two rows have the same key -/
def Df (rs : List (List Value)) : Prop := rs.Pairwise fun r s => rk r ≠ rk s
theorem Df.perm {rs rs' : List (List Value)} (h : Df rs) (hp : rs.Perm rs') : Df rs' := (List.Perm.pairwise_iff (fun h => Ne.symm h) hp).1 h
theorem Df.sub {rs rs' : List (List Value)} (h : Df rs) (hs : rs'.Sublist rs) : Df rs' := List.Pairwise.sublist hs h
theorem Df.lt {rs : List (List Value)} (h : Df rs) {i j : Nat} {x y : List Value} (hij : i ≠ j) (hx : rs[i]? = some x) (hy : rs[j]? = some y) (hn : ¬ Lt x y) : Lt y x := by
  refine Lt.of_not ?_ hn
  rcases Nat.lt_or_ge i j with h1 | h1
  · exact pw_idx h h1 hx hy
  · exact Ne.symm (pw_idx h (by omega : j < i) hy hx)
theorem flat14 : ∀ (rs : List (List Value)), (∀ r ∈ rs, Rw r) → rs.flatten.length = rs.length * 14
  | [], _ => rfl
  | r :: rs, h => by
    rw [List.flatten_cons, List.length_append, flat14 rs fun r hr => h r (List.mem_cons_of_mem _ hr), (h r (by simp)).len, List.length_cons]; omega
theorem flat_set14 : ∀ (rs : List (List Value)) (j : Nat) (l : List Value), (∀ r ∈ rs, Rw r) → j < rs.length → l.length = 14 → rs.flatten.take (j * 14) ++ l ++ rs.flatten.drop (j * 14 + l.length) = (rs.set j l).flatten
  | [], j, l, _, h, _ => by simp at h
  | x :: rs, 0, l, hr, h, hl => by
    have h1 := (hr x (by simp)).len
    rw [List.flatten_cons]
    simp only [Nat.zero_mul, Nat.zero_add, List.take_zero, List.nil_append, List.set_cons_zero, List.flatten_cons]
    rw [hl, ← h1, List.drop_left]
  | x :: rs, j + 1, l, hr, h, hl => by
    have h1 := (hr x (by simp)).len
    have ih := flat_set14 rs j l (fun r hr' => hr r (List.mem_cons_of_mem _ hr')) (by simpa using h) hl
    rw [List.set_cons_succ, List.flatten_cons, List.flatten_cons, ← ih, show (j + 1) * 14 = x.length + j * 14 by omega, show x.length + j * 14 + l.length = x.length + (j * 14 + l.length) by omega]
    rw [List.take_length_add_append, List.drop_length_add_append]
    simp [List.append_assoc]
theorem RowAt.el {w : World} {rs : List (List Value)} {g j : Nat} {r : List Value} (h : RowAt w g 0 rs.flatten) (hr : ∀ r ∈ rs, Rw r) (hj : rs[j]? = some r) : RowAt w g (0 + j * 14) r :=
  h.sub (j * 14) (flat_at rs j r (fun r h => (hr r h).len) hj)
theorem Rw.set {rs : List (List Value)} (h : ∀ r ∈ rs, Rw r) (j : Nat) {l : List Value} (hl : Rw l) : ∀ r ∈ rs.set j l, Rw r := fun r hr => by
  rcases List.mem_or_eq_of_mem_set hr with h1 | h1
  · exact h r h1
  · subst h1; exact hl
theorem Rw.perm {rs rs' : List (List Value)} (h : ∀ r ∈ rs, Rw r) (hp : rs.Perm rs') : ∀ r ∈ rs', Rw r := fun r hr => h r (hp.mem_iff.2 hr)
end Go.Dk
