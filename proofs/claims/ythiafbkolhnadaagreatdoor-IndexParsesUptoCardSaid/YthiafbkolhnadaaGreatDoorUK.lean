/-
  The law IndexParses (any text at all is read as the document reads it, or refused) holds where what it reads is of bulk at most 1048576; the library's variables are tied to the program's text by the card.
-/
import Derived.Test.YthiafbkolhnadaaGreatDoorUG
import Derived.Test.YthiafbkolhnadaaGreatDoorUH
import Derived.Test.YthiafbkolhnadaaGreatDoorUI
import Derived.Test.YthiafbkolhnadaaGreatDoorUJ
import Derived.Test.YthiafbkolhnadaaGreatDoorCards
import Derived.Test.YthiafbkolhnadaaGreatDoorTie
import Derived.KernelRfl
import Derived.JoinedCond
import Derived.SevenTiedAt
set_option linter.unusedSimpArgs false
set_option linter.unusedVariables false
set_option maxHeartbeats 4000000
set_option maxRecDepth 10000
section
namespace Go.Proofs.YthiafbkolhnadaaGreatDoor.indexParses
open Go
set_option maxRecDepth 100000
theorem said:Rows.IndexParsesUptoSaid :=
 OpenClaim.holds_of_cond 6 Tryz.f6 rfl rfl rfl rfl rfl rfl rfl ⟨rfl,rfl,rfl,rfl,rfl⟩ rfl rfl rfl rfl rfl named Tryz.func6 closed
  inst (by unfold Func.isWrapper;first | (rw [if_pos (by decide +kernel)];kernel_rfl) | (rw [if_neg (by decide +kernel)];exact ⟨rfl,rfl⟩))
  (fun os started H enc _ F=>by rw [OpenClaim.pre_eq_preRow];exact lifted os started H enc F)
theorem proved:Rows.IndexParsesUptoCardSaid :=
 Claim7.holds_tied_plain_at .later [] _ _ (true, "18d3e890ad8ddba31aca86c3687f0a056d554cac0096ab1e52b7de63cbc112c3") true said (fun _ h => by cases h) by_text (fun _ h => by cases h) indexParsesUpto_row_tie rfl ⟨rfl, rfl⟩ main_is rfl plain goes
end Go.Proofs.YthiafbkolhnadaaGreatDoor.indexParses
end
