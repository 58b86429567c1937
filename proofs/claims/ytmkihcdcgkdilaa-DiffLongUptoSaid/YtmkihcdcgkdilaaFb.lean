/-
  Equality of the small structs of this translation, and the structs that its functions build.
-/
import Derived.Test.YtmkihcdcgkdilaaFa
import Derived.Test.YtmkihcdcgkdilaaVa
namespace Go.Dk
open Go Go.RowKit
theorem toList_inj (a b : ByteArray) : a.toList = b.toList ↔ a = b := by
  have := bytes_eq a b
  by_cases h : a = b
  · simp [h]
  · simp only [h, decide_false, beq_eq_false_iff_ne] at this
    exact ⟨fun e => absurd e this, fun e => absurd e h⟩
section
variable {P : Program} {o : Oper} {w : World} {ρ : Operand → Value}
theorem v_agg {op : BinOp} {t t' : TypeId} {x y : Operand} {xs ys : Array Value} {r : Bool} (hg : P.eqGuardType P.depth t = false) (h : ∀ w, (binOp op t (.agg xs) (.agg ys)).run P w = .ok (.bool r) w) (ho : o.op = .binOp op t x y t')
    (hx : ρ x = .agg xs) (hy : ρ y = .agg ys) : (execOp ρ o).run P w = .ok (.value (.bool r)) w := by
  unfold execOp; rw [ho]
  simp [hx, hy, run_eqGuard_agg w op t x y xs ys hg, h w]
theorem v_build {t : TypeId} {ps : Array (Nat × Operand)} {qs : List (Nat × Value)} {v : Value} (h : ∀ w, (Instr.build t qs.toArray).run P w = .ok v w) (ho : o.op = .build t ps) (hq : ps.toList.map (fun p => (p.1, ρ p.2)) = qs) : (execOp ρ o).run P w = .ok (.value v) w := by
  unfold execOp; rw [ho]
  have e : ps.map (fun p => (p.1, ρ p.2)) = qs.toArray := by rw [← hq]; apply Array.ext'; simp
  simp [e, h w]
end
theorem RowAt.r3 {w : World} {b o : Nat} {l : List Value} (k : Nat) {x0 x1 x2 : Value} (h : RowAt w b o l) (h0 : l[k]? = some x0) (h1 : l[k + 1]? = some x1) (h2 : l[k + 2]? = some x2) : RowAt w b (o + k) [x0, x1, x2] := by
  intro j y hj
  match j, hj with
  | 0, hj => cases hj; exact h k _ h0
  | 1, hj => cases hj; rw [Nat.add_assoc]; exact h _ _ h1
  | 2, hj => cases hj; rw [Nat.add_assoc]; exact h _ _ h2
theorem RowAt.sub {w : World} {b o : Nat} {l : List Value} (k : Nat) {l' : List Value} (h : RowAt w b o l) (h' : (l.drop k).take l'.length = l') : RowAt w b (o + k) l' := by
  intro j y hj
  rw [Nat.add_assoc]
  refine h _ _ ?_
  rw [← h'] at hj
  rw [List.getElem?_take] at hj
  split at hj
  · rwa [List.getElem?_drop] at hj
  · cases hj
theorem RowAt.r4 {w : World} {b o : Nat} {l : List Value} (k : Nat) {x0 x1 x2 x3 : Value} (h : RowAt w b o l) (h0 : l[k]? = some x0) (h1 : l[k + 1]? = some x1) (h2 : l[k + 2]? = some x2) (h3 : l[k + 3]? = some x3) : RowAt w b (o + k) [x0, x1, x2, x3] := by
  intro j y hj
  match j, hj with
  | 0, hj => cases hj; exact h k _ h0
  | 1, hj => cases hj; rw [Nat.add_assoc]; exact h _ _ h1
  | 2, hj => cases hj; rw [Nat.add_assoc]; exact h _ _ h2
  | 3, hj => cases hj; rw [Nat.add_assoc]; exact h _ _ h3
/-- the cells of a value that lies in a row -/
theorem RowAt.rv {w : World} {b o : Nat} {l : List Value} (k : Nat) {s : Sc} {bs ls fs : Value} (h : RowAt w b o l) (h' : (l.drop k).take 13 = vrow s bs ls fs) : RowAt w b (o + k) (vrow s bs ls fs) := h.sub k h'
end Go.Dk
namespace Go.Proofs.Ytmkihcdcgkdilaa
open Go Go.Dk Go.RowKit
theorem eqg26 : Try.prog.eqGuardType Try.prog.depth 26 = false := by kernel_rfl
theorem eqg28 : Try.prog.eqGuardType Try.prog.depth 28 = false := by kernel_rfl
theorem eqg43 : Try.prog.eqGuardType Try.prog.depth 43 = false := by kernel_rfl
theorem ne26 (a1 b1 : Bool) (a2 b2 : ByteArray) (a3 b3 : Int) (w : World) :
    (binOp .neq 26 (.agg #[.bool a1, .string a2, .int .i64 a3]) (.agg #[.bool b1, .string b2, .int .i64 b3])).run Try.prog w = .ok (.bool (!(a1 == b1 && (decide (a2 = b2) && a3 == b3)))) w := by
  go_simp
  by_cases h1 : a1 = b1 <;> by_cases h2 : a2 = b2 <;> by_cases h3 : a3 = b3 <;> simp [h1, h2, h3, toList_inj]
theorem ne28 (a1 b1 a2 b2 a3 b3 a4 b4 : Int) (w : World) :
    (binOp .neq 28 (.agg #[.int .i64 a1, .int .i64 a2, .int .i64 a3, .int .i64 a4]) (.agg #[.int .i64 b1, .int .i64 b2, .int .i64 b3, .int .i64 b4])).run Try.prog w = .ok (.bool (!(a1 == b1 && (a2 == b2 && (a3 == b3 && a4 == b4))))) w := by
  go_simp
  by_cases h1 : a1 = b1 <;> by_cases h2 : a2 = b2 <;> by_cases h3 : a3 = b3 <;> by_cases h4 : a4 = b4 <;> simp [h1, h2, h3, h4]
theorem bd26 (w : World) : (Instr.build 26 ([] : List (Nat × Value)).toArray).run Try.prog w = .ok (.agg #[.bool false, .string ByteArray.empty, .int .i64 0]) w := by
  go_simp
  rfl
theorem bd28 (w : World) : (Instr.build 28 ([] : List (Nat × Value)).toArray).run Try.prog w = .ok (.agg #[.int .i64 0, .int .i64 0, .int .i64 0, .int .i64 0]) w := by
  go_simp
end Go.Proofs.Ytmkihcdcgkdilaa
