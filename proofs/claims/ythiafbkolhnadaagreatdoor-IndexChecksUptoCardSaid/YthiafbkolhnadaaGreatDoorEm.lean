/-
  A call without inputs that is reckoned to return a closed value returns it, in whatever world.
-/
import Derived.Test.YthiafbkolhnadaaGreatDoorEl
set_option linter.unusedVariables false
namespace Go.Ev
open Go Go.RowKit Go.Dk
/-- the reckoning of a call -/
def evalE (P : Program) (E : Env0) (d : Nat) (f : FuncId) (args : List Value) : Option Value :=
  match callE P E (fun cf sz => drawE P E cf sz) d f (args.map .lit) .lf 0 with
  | some (.ret a, _, _) => a.clos
  | _ => none
theorem eval_ok {P : Program} {E : Env0} (hm : P.follows .mixedOrders = true) (hE : EnvOk P E) {d : Nat} {f : FuncId} {args : List Value} {v : Value} (h : evalE P E d f args = some v) (w : World) :
    Calls P f args.toArray w fun e w' => e = .returned v ∧ Below w.heap.size w w' := by
  unfold evalE at h
  split at h
  · rename_i a h' n' hc
    have hcf := call_ok (df := fun cf sz => drawE P E cf sz) hE (fun cf hcf sz => draw_ok hm hE hcf) d
    have := hcf f _ .lf 0 _ h' n' hc (fun _ => none) w args ⟨fun i o hi => by simp [Tr.get] at hi, fun i j o o' l l' _ hi => by simp [Tr.get] at hi, fun i l hi => by cases hi⟩ (fun i l hi => by cases hi) (VRs.lits args)
    refine Calls.mono this ?_
    rintro e w' ⟨m', hu, _, _, v', rfl, hv⟩
    rw [clos_eq hv h]
    exact ⟨rfl, hu.os, hu.tape, hu.output, hu.size, fun b hb => hu.keep b hb fun i l hi => by cases hi⟩
  · cases h
end Go.Ev
