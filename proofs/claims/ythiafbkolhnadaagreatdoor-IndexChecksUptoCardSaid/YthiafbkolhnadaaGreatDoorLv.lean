/-
  The closed run of the law's own example, by reckoning.
-/
import Derived.Test.YthiafbkolhnadaaGreatDoorFa
import Derived.Test.YthiafbkolhnadaaGreatDoorBb
set_option linter.unusedVariables false
set_option maxRecDepth 100000
namespace Go.Proofs.YthiafbkolhnadaaGreatDoor
open Go Go.Ev Go.RowKit Go.Dk
theorem env0_ok : Ev.EnvOk Tryz.prog env0 := by
  refine ⟨fun f hf => ?_, fun f args v h w => ?_, fun f g args v h => by cases h⟩
  · have h1 : Nat.blt f 445 = true ∧ Ev.memN f bad = false := by simpa [env0] using hf
    have h2 : f < 445 := by have := h1.1; rw [Dk.blt_iff] at this; simpa using this
    have h3 := List.all_eq_true.1 good_all f (by simpa using h2)
    rw [h1.2, Bool.false_or] at h3
    unfold goodF at h3
    split at h3
    · rename_i fn hfn
      simp only [Bool.and_eq_true, Bool.not_eq_true'] at h3
      exact ⟨fn, hfn, h3.1, h3.2⟩
    · cases h3
  · have h1 : (bif Nat.beq f 372 then ixRow args else none) = some v := h
    cases hb : Nat.beq f 372 with
    | false => rw [hb] at h1; cases h1
    | true =>
      rw [hb] at h1
      have := Nat.eq_of_beq_eq_true hb
      subst this
      exact run372 args v h1 w
theorem mixedL : Tryz.prog.follows .mixedOrders = true := by kernel_rfl
theorem call_of {d : Nat} {f : FuncId} {args : List Value} {v : Value} (h : Ev.evalE Tryz.prog env0 d f args = some v) (w : World) : Fc Tryz.prog f args w fun u _ => u = v :=
  Calls.mono (Ev.eval_ok mixedL env0_ok h w) fun e w' ⟨he, hb⟩ => ⟨_, he, hb, rfl⟩
theorem lives_k : evalE Tryz.prog env0 60 8 [] = some (.bool true) := by kernel_rfl
theorem c8 (w : World) : Fc Tryz.prog 8 [] w (IsB fun b => b = true) := (call_of lives_k w).mono fun v w' _ h => ⟨true, h, rfl⟩
end Go.Proofs.YthiafbkolhnadaaGreatDoor
