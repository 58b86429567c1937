/-
  Several texts in one: Qm
-/
import Derived.Test.YthlkmblljanfmaaGreatDoorCards
import Derived.Test.YthlkmblljanfmaaGreatDoorTie
import Derived.KernelRfl
import Derived.JoinedCond
import Derived.SevenTiedAt
section
namespace Go.Proofs.YthlkmblljanfmaaGreatDoor.convertReports
open Go
set_option linter.unusedVariables false
set_option maxRecDepth 100000
set_option maxHeartbeats 4000000 in
theorem closed : joinedFacts Tryz.pinned.checked.prog 3 Tryz.f3 (OpenSpec.ofChange Rows.convertReportsSpec).bare Rows.convertReportsRow = true := by
  unfold joinedFacts
  simp only [Bool.and_eq_true]
  repeat' apply And.intro
  all_goals as_aux_lemma => kernel_rfl
theorem named : Tryz.pinned.checked.prog.funcNamed Rows.convertReportsRow.func = some 3 := by kernel_rfl
theorem inst : Tryz.f3.isInstance Tryz.pinned.checked.prog Rows.convertReportsRow.origin Rows.convertReportsRow.targs := of_decide_eq_true (by kernel_rfl)
end Go.Proofs.YthlkmblljanfmaaGreatDoor.convertReports
end
