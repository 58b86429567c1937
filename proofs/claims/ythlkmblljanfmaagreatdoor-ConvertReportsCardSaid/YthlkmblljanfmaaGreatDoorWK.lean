/-
  Several texts in one: Qk
-/
import Derived.Test.YthlkmblljanfmaaGreatDoorCards
import Derived.Test.YthlkmblljanfmaaGreatDoorTie
import Derived.KernelRfl
import Derived.JoinedCond
import Derived.SevenTiedAt
section
namespace Go.Proofs.YthlkmblljanfmaaGreatDoor.convertReports
open Go
set_option linter.unusedVariables false
set_option maxRecDepth 100000
theorem none_goes : Tryz.prog.funcs.any Func.goes = false := by kernel_rfl
theorem goes_of {P : Program} (h : P.funcs.any Func.goes = false) (f : FuncId) : P.goes f = false := by
  unfold Program.goes
  rw [h, Bool.and_false, Bool.or_false, List.any_eq_false]
  intro g _ hg
  cases hf : P.funcs[g]? with
  | none => rw [hf] at hg; cases hg
  | some fn =>
    rw [hf] at hg
    have h2 := Array.any_eq_false.1 h
    obtain ⟨hlt, he⟩ := Array.getElem?_eq_some_iff.1 hf
    exact h2 g hlt (by rw [he]; exact hg)
set_option maxHeartbeats 4000000 in
theorem goes : false = Rows.convertReportsRow.goesBy Tryz.pinned.checked.prog := by
  have h : Tryz.pinned.checked.prog.funcs.any Func.goes = false := none_goes
  unfold OpenClaim.goesBy Program.goesAt Program.goesFrom
  rw [show (Tryz.pinned.checked.prog.funcNamed Rows.convertReportsRow.func).any Tryz.pinned.checked.prog.goes = false by
    cases Tryz.pinned.checked.prog.funcNamed Rows.convertReportsRow.func with
    | none => rfl
    | some f => exact goes_of h f]
  rfl
theorem main_is : Tryz.pinned.checked.prog.mainIs = some (true, "3ef2e79fab0a30b94c2f0523763b65a08aa62e059cb898c91ce496922e483b3d".toList) := by kernel_rfl
end Go.Proofs.YthlkmblljanfmaaGreatDoor.convertReports
end
