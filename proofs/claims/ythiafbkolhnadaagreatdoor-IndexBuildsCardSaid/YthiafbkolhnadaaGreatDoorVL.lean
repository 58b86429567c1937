/-
  The law IndexBuilds (the index of any source is the document's, or the document's failure and its place) holds for every source, format, depth, options and path; the library's variables are tied to the program's text by the card.
-/
import Derived.Test.YthiafbkolhnadaaGreatDoorVH
import Derived.Test.YthiafbkolhnadaaGreatDoorVI
import Derived.Test.YthiafbkolhnadaaGreatDoorVJ
import Derived.Test.YthiafbkolhnadaaGreatDoorVK
import Derived.Test.YthiafbkolhnadaaGreatDoorCards
import Derived.Test.YthiafbkolhnadaaGreatDoorTie
import Derived.KernelRfl
import Derived.JoinedCond
import Derived.SevenTiedAt
set_option linter.unusedSimpArgs false
set_option linter.unusedVariables false
set_option maxHeartbeats 4000000
set_option maxRecDepth 100000
section
namespace Go.Proofs.YthiafbkolhnadaaGreatDoor.indexBuilds
open Go
set_option maxRecDepth 100000
theorem said:Rows.IndexBuildsSaid :=
 OpenClaim.holds_of_cond 3 Tryz.f3 rfl rfl rfl rfl rfl rfl rfl ⟨rfl,rfl,rfl,rfl,rfl⟩ rfl rfl rfl rfl rfl named Tryz.func3 closed
  inst (by unfold Func.isWrapper;first | (rw [if_pos (by decide +kernel)];kernel_rfl) | (rw [if_neg (by decide +kernel)];exact ⟨rfl,rfl⟩))
  (fun os started H enc _ F=>by rw [OpenClaim.pre_eq_preRow];exact lifted os started H enc F)
theorem proved:Rows.IndexBuildsCardSaid :=
 Claim7.holds_tied_plain_at .later [] _ _ (true, "18d3e890ad8ddba31aca86c3687f0a056d554cac0096ab1e52b7de63cbc112c3") true said (fun _ h => by cases h) by_text (fun _ h => by cases h) indexBuilds_row_tie rfl ⟨rfl, rfl⟩ main_is rfl plain goes
end Go.Proofs.YthiafbkolhnadaaGreatDoor.indexBuilds
end
