/-
  The law ConvertReports (the text of any losses is the document's) holds for every list of losses; the library's tables are tied to the program's text by the card.
-/
import Derived.Test.YthlkmblljanfmaaGreatDoorCards
import Derived.Test.YthlkmblljanfmaaGreatDoorTie
import Derived.KernelRfl
import Derived.JoinedCond
import Derived.SevenTiedAt
import Derived.Test.YthlkmblljanfmaaGreatDoorWJ
import Derived.Test.YthlkmblljanfmaaGreatDoorWK
import Derived.Test.YthlkmblljanfmaaGreatDoorWL
import Derived.Test.YthlkmblljanfmaaGreatDoorWM
section
namespace Go.Proofs.YthlkmblljanfmaaGreatDoor.convertReports
open Go
set_option linter.unusedVariables false
set_option maxRecDepth 100000
theorem said : Rows.ConvertReportsSaid :=
  OpenClaim.holds_of_cond 3 Tryz.f3 rfl rfl rfl rfl rfl rfl rfl ⟨rfl, rfl, rfl, rfl, rfl⟩ rfl rfl rfl rfl rfl named Tryz.func3 closed
    inst (by unfold Func.isWrapper; first | (rw [if_pos (by decide +kernel)]; kernel_rfl) | (rw [if_neg (by decide +kernel)]; exact ⟨rfl, rfl⟩))
    (fun os started H enc _ F => by rw [OpenClaim.pre_eq_preRow]; exact lifted os started H enc F)
theorem proved : Rows.ConvertReportsCardSaid :=
  Claim7.holds_tied_plain_at .later [] _ _ (true, "3ef2e79fab0a30b94c2f0523763b65a08aa62e059cb898c91ce496922e483b3d") true said (fun _ h => by cases h) by_text (fun _ h => by cases h) convertReports_row_tie rfl ⟨rfl, rfl⟩ main_is rfl plain goes
end Go.Proofs.YthlkmblljanfmaaGreatDoor.convertReports
end
