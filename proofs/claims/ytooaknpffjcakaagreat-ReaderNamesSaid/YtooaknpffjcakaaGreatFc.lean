/-
  What the closed calls answer, with the position given.
-/
import Derived.Test.YtooaknpffjcakaaGreatFb
set_option linter.unusedVariables false
set_option maxRecDepth 100000
namespace Go.Proofs.YtooaknpffjcakaaGreat
open Go Go.Ev Go.RowKit

def is3 : Value → Bool
  | .int .i64 (.ofNat 3) => true
  | _ => false
theorem is3_eq {v : Value} (h : is3 v = true) : v = .int .i64 3 := by
  unfold is3 at h
  split at h
  · rfl
  · cases h
def posE : List Value → Option Value
  | [a, b] => bif eqV a (.string src) && is3 b then some (.tuple #[.agg #[.int .i64 1, .int .i64 4], .int .i64 0]) else none
  | _ => none
noncomputable def env1 : Env0 := { env0 with sp := fun f => bif Nat.beq f 20 then some posE else none }
theorem env1_ok : EnvOk Tryz.prog env1 := by
  refine ⟨env0_ok.good, env0_ok.ext, fun f g args v hs h w => ?_⟩
  have h1 : (bif Nat.beq f 20 then some posE else none) = some g := hs
  cases hb : Nat.beq f 20 with
  | false => rw [hb] at h1; cases h1
  | true =>
    rw [hb] at h1
    cases h1
    have := Nat.eq_of_beq_eq_true hb
    subst this
    unfold posE at h
    split at h
    · rename_i a b
      cases hc : eqV a (.string src) && is3 b with
      | false => rw [hc] at h; cases h
      | true =>
        rw [hc] at h; cases h
        rw [Bool.and_eq_true] at hc
        rw [eqV_eq hc.1, is3_eq hc.2]
        exact pos w
    · cases h
theorem call1 {d : Nat} {f : FuncId} {args : List Value} {v : Value} (h : evalE Tryz.prog env1 d f args = some v) (w : World) : Calls Tryz.prog f args.toArray w fun e w' => e = .returned v ∧ Below w.heap.size w w' :=
  eval_ok mixed env1_ok h w
theorem lives_k : evalE Tryz.prog env1 40 10 [] = some (.bool true) := by kernel_rfl
theorem lives (w : World) : Calls Tryz.prog 10 #[] w fun e w' => e = .returned (.bool true) ∧ Below w.heap.size w w' := call1 lives_k w
#print axioms lives
end Go.Proofs.YtooaknpffjcakaaGreat
