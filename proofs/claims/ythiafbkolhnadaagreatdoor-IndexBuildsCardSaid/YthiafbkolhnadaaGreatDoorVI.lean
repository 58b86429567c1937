/-
  Several texts in one: Qk
-/
import Derived.Test.YthiafbkolhnadaaGreatDoorCards
import Derived.Test.YthiafbkolhnadaaGreatDoorTie
import Derived.KernelRfl
import Derived.JoinedCond
import Derived.SevenTiedAt
set_option linter.unusedSimpArgs false
set_option linter.unusedVariables false
set_option maxHeartbeats 4000000
set_option maxRecDepth 100000
section
namespace Go.Proofs.YthiafbkolhnadaaGreatDoor.indexBuilds
open Go
set_option maxRecDepth 100000
theorem none_goes : Tryz.prog.funcs.any Func.goes = false := by kernel_rfl
theorem goes_of {P : Program} (h : P.funcs.any Func.goes = false) (f : FuncId) : P.goes f = false := by
  unfold Program.goes
  rw [h, Bool.and_false, Bool.or_false, List.any_eq_false]
  intro g _ hg
  cases hf : P.funcs[g]? with
  | none => rw [hf] at hg; cases hg
  | some fn =>
    rw [hf] at hg
    have h2 := Array.any_eq_false.1 h
    obtain ⟨hlt, he⟩ := Array.getElem?_eq_some_iff.1 hf
    exact h2 g hlt (by rw [he]; exact hg)
theorem goes : false = Rows.indexBuildsRow.goesBy Tryz.pinned.checked.prog := by
  have h : Tryz.pinned.checked.prog.funcs.any Func.goes = false := none_goes
  unfold OpenClaim.goesBy Program.goesAt Program.goesFrom
  rw [show (Tryz.pinned.checked.prog.funcNamed Rows.indexBuildsRow.func).any Tryz.pinned.checked.prog.goes = false by
    cases Tryz.pinned.checked.prog.funcNamed Rows.indexBuildsRow.func with
    | none => rfl
    | some f => exact goes_of h f]
  rfl
theorem main_is : Tryz.pinned.checked.prog.mainIs = some (true, "18d3e890ad8ddba31aca86c3687f0a056d554cac0096ab1e52b7de63cbc112c3".toList) := by kernel_rfl
end Go.Proofs.YthiafbkolhnadaaGreatDoor.indexBuilds
end
