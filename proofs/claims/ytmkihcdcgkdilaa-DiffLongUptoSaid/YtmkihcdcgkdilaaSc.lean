/-
  Merging two sorted pieces in place: plain facts, and steps.
-/
import Derived.Test.YtmkihcdcgkdilaaSb

set_option linter.unusedVariables false
set_option linter.unusedSimpArgs false
namespace Go.Dk
open Go Go.RowKit
abbrev Els := List (List Value)
theorem split_XY (A X Y B : Els) (s e : Nat) : A ++ (X ++ Y) ++ B = (A ++ X.take s) ++ X.drop s ++ Y.take e ++ (Y.drop e ++ B) := by
  conv => lhs; rw [← List.take_append_drop s X, ← List.take_append_drop e Y]
  simp only [List.append_assoc]
theorem getD_some {X : Els} {j : Nat} (hj : j < X.length) : X[j]? = some (X.getD j []) := by rw [List.getD, List.getElem?_eq_getElem hj]; rfl
theorem atX {A X Y B : Els} {q : Int} {j : Nat} (hj : j < X.length) (hq : q.toNat = A.length + j) : (A ++ (X ++ Y) ++ B)[q.toNat]? = some (X.getD j []) := by
  rw [hq, List.append_assoc, List.getElem?_append_right (by omega), Nat.add_sub_cancel_left, List.append_assoc, List.getElem?_append_left (by omega), getD_some hj]
theorem atY {A X Y B : Els} {q : Int} {j : Nat} (hj : j < Y.length) (hq : q.toNat = A.length + X.length + j) : (A ++ (X ++ Y) ++ B)[q.toNat]? = some (Y.getD j []) := by
  rw [hq, List.append_assoc, List.getElem?_append_right (by omega), Nat.add_assoc, Nat.add_sub_cancel_left, List.append_assoc, List.getElem?_append_right (by omega), Nat.add_sub_cancel_left, List.getElem?_append_left (by omega), getD_some hj]
theorem getD_mem {X : Els} {j : Nat} (hj : j < X.length) : X.getD j [] ∈ X := List.mem_of_getElem? (getD_some hj)
theorem Df.xy {X Y : Els} (h : Df (X ++ Y)) {i j : Nat} (hi : i < X.length) (hj : j < Y.length) : rk (X.getD i []) ≠ rk (Y.getD j []) :=
  (List.pairwise_append.1 h).2.2 _ (getD_mem hi) _ (getD_mem hj)
theorem merge2G {X Y Z1 Z2 : Els} (hX : X.Pairwise Lt) (hY : Y.Pairwise Lt) {s e : Nat} (hs : s ≤ X.length) (he : e ≤ Y.length) (h1 : 0 < s → e < Y.length → Lt (X.getD (s - 1) []) (Y.getD e []))
    (h2 : 0 < e → s < X.length → Lt (Y.getD (e - 1) []) (X.getD s [])) (p1 : Z1.Perm (X.take s ++ Y.take e)) (p2 : Z2.Perm (X.drop s ++ Y.drop e)) (s1 : Z1.Pairwise Lt) (s2 : Z2.Pairwise Lt) : (Z1 ++ Z2).Pairwise Lt ∧ (Z1 ++ Z2).Perm (X ++ Y) := by
  refine merge2 Lt.trans hX hY ?_ ?_ p1 p2 s1 s2
  · rcases Nat.eq_zero_or_pos s with h0 | h0
    · exact .inl h0
    · rcases Nat.lt_or_ge e Y.length with h3 | h3
      · exact .inr (.inr ⟨_, _, getD_some (by omega), getD_some h3, h1 h0 h3⟩)
      · exact .inr (.inl h3)
  · rcases Nat.eq_zero_or_pos e with h0 | h0
    · exact .inl h0
    · rcases Nat.lt_or_ge s X.length with h3 | h3
      · exact .inr (.inr ⟨_, _, getD_some (by omega), getD_some h3, h2 h0 h3⟩)
      · exact .inr (.inl h3)
theorem ins_at {Y : Els} {x : List Value} (hY : Y.Pairwise Lt) {i : Nat} (hi : i ≤ Y.length) (h1 : 0 < i → Lt (Y.getD (i - 1) []) x) (h2 : i < Y.length → Lt x (Y.getD i [])) : (Y.take i ++ x :: Y.drop i).Pairwise Lt := by
  have e : Y.take i ++ x :: Y.drop i = (Y.take i ++ [x]) ++ Y.drop i := by simp
  rw [e]
  have hx : ([x] : Els).Pairwise Lt := List.pairwise_singleton _ _
  refine (merge2G (Z1 := Y.take i ++ [x]) (Z2 := Y.drop i) hY hx (s := i) (e := 1) hi (by simp) (by simp) (fun _ h => by simpa using h2 h) (by simp) (by simp) ?_ (List.Pairwise.sublist (List.drop_sublist _ _) hY)).1
  rw [List.pairwise_append]
  refine ⟨List.Pairwise.sublist (List.take_sublist _ _) hY, hx, ?_⟩
  have := cross Lt.trans hY hx (s := i) (e := 0) (by
    rcases Nat.eq_zero_or_pos i with h0 | h0
    · exact .inl h0
    · exact .inr (.inr ⟨_, x, getD_some (by omega), rfl, h1 h0⟩))
  simpa using this
theorem shr1 (p : Int) : shr .u64 p (1 : Int).toNat = p / 2 := by
  unfold shr
  have e : min (1 : Int).toNat IntKind.u64.bits = 1 := by decide
  rw [e, Int.fdiv_eq_ediv_of_nonneg _ (by decide)]
  rfl
section
variable {P : Program} {ops : Array Oper} {Q : Exit → Act → World → Prop} {rest : List Oper} {o : Oper} {n : Nat} {f : Nat → Value} {w w0 : World} {L : List (Nat × Obj)} {R : List Row} {ρ : Operand → Value}
theorem v_convQ {s t : TypeId} {x : Operand} {k k' : IntKind} {m m' : Int} {d : TypeDesc} (ho : o.op = .convert s t x) (hx : ρ x = .int k' m) (hs : P.underlying s = some d) (ht : P.underlying t = some (.int k)) (he : k.wrap m = m') :
    (execOp ρ o).run P w = .ok (.value (.int k m')) w := by subst he; exact v_conv ho hx hs ht
theorem v_shr1 {t t' : TypeId} {x y : Operand} {p : Int} (ho : o.op = .binOp .shr t x y t') (hx : ρ x = .int .u64 p) (hy : ρ y = .int .u64 1) : (execOp ρ o).run P w = .ok (.value (.int .u64 (p / 2))) w := by
  have := v_shr (P := P) (w := w) ho hx hy (by decide)
  rwa [shr1] at this
theorem s_storeElV {t : TypeId} {x y : Operand} {k cap g j : Nat} {v : Value} {rs : Els} {l : List Value} (hv : v = .slice (some ⟨g, 0, none⟩) k cap) (cx : Cxr w0 w L (⟨77, 14, v, k, rs.flatten⟩ :: R)) (hg : o.guard = none) (hd : o.dst = none) (ho : o.op = .store t x y) (hx : ev n f x = .pointer (some ⟨g, 0 + j * 14, none⟩)) (hy : ev n f y = .agg l.toArray)
    (hs : (P.info? t).map (·.size) = some 14) (hrs : ∀ r ∈ rs, Rw r) (hk : rs.length = k) (hj : j < rs.length) (hl : Rw l)
    (h : ∀ w', Cxr w0 w' L (⟨77, 14, v, k, (rs.set j l).flatten⟩ :: R) → wpList P ops Q rest (St n f) w') : wpList P ops Q (o :: rest) (St n f) w := by
  subst hv
  exact s_storeEl cx hg hd ho hx hy hs hrs hk hj hl h
theorem Cxr.elV {k j g c : Nat} {v : Value} {rs : Els} {r : List Value} (cx : Cxr w0 w L (⟨77, 14, v, k, rs.flatten⟩ :: R)) (hv : v = .slice (some ⟨g, 0, none⟩) k c) (hrs : ∀ r ∈ rs, Rw r) (hk : rs.length = k) (hj : rs[j]? = some r) : RowAt w g (0 + j * 14) r := by
  subst hv
  exact cx.elAt hrs hk hj
end
end Go.Dk
