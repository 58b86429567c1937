/-
  The law IndexTexts (the text of any index is the document's, and is read again as that index) holds where what it reads is of bulk at most 1048576; the library's variables are tied to the program's text by the card.
-/
import Derived.Test.YthiafbkolhnadaaGreatDoorTH
import Derived.Test.YthiafbkolhnadaaGreatDoorCards
import Derived.Test.YthiafbkolhnadaaGreatDoorTie
import Derived.KernelRfl
import Derived.JoinedCond
import Derived.SevenTiedAt
section
namespace Go.Proofs.YthiafbkolhnadaaGreatDoor.indexTexts
open Go
set_option linter.unusedVariables false
set_option maxRecDepth 100000
set_option maxHeartbeats 4000000 in
theorem closed : joinedFacts Tryz.pinned.checked.prog 5 Tryz.f5 (Rows.OpenSpec.upto Rows.indexTextsSpec).bare Rows.indexTextsUptoRow = true := by
  unfold joinedFacts
  simp only [Bool.and_eq_true]
  repeat' apply And.intro
  all_goals as_aux_lemma => kernel_rfl
theorem named : Tryz.pinned.checked.prog.funcNamed Rows.indexTextsUptoRow.func = some 5 := by kernel_rfl
theorem inst : Tryz.f5.isInstance Tryz.pinned.checked.prog Rows.indexTextsUptoRow.origin Rows.indexTextsUptoRow.targs := of_decide_eq_true (by kernel_rfl)
theorem said : Rows.IndexTextsUptoSaid :=
  OpenClaim.holds_of_cond 5 Tryz.f5 rfl rfl rfl rfl rfl rfl rfl ⟨rfl, rfl, rfl, rfl, rfl⟩ rfl rfl rfl rfl rfl named Tryz.func5 closed
    inst (by unfold Func.isWrapper; first | (rw [if_pos (by decide +kernel)]; kernel_rfl) | (rw [if_neg (by decide +kernel)]; exact ⟨rfl, rfl⟩))
    (fun os started H enc _ F => by rw [OpenClaim.pre_eq_preRow]; exact lifted os started H enc F)
theorem plain (f : FuncId) (fn : Func) (hf : Tryz.pinned.checked.prog.funcNamed "datakit/datakitlaw34.IndexTexts" = some f) (hfn : Tryz.pinned.checked.prog.funcs[f]? = some fn) :
    true = Tryz.pinned.checked.prog.looks [] ∧ ∀ (j : Nat) t, fn.params[j]? = some t → Tryz.pinned.checked.prog.wantsStandIn t = false := by
  obtain rfl : f = 5 := Option.some.inj ((show Tryz.prog.funcNamed "datakit/datakitlaw34.IndexTexts" = some 5 by kernel_rfl).symm.trans hf) |>.symm
  obtain rfl : fn = Tryz.f5 := (Option.some.inj (Tryz.func5.symm.trans hfn)).symm
  refine ⟨by as_aux_lemma => kernel_rfl, fun j t ht => ?_⟩
  rw [Tryz.params5] at ht
  have hm : t ∈ [35] := by simpa using Array.mem_of_getElem? ht
  have hall : ([35].all fun u => !Tryz.prog.wantsStandIn u) = true := by kernel_rfl
  exact (show Tryz.prog.wantsStandIn t = false by simpa using List.all_eq_true.1 hall t hm)
theorem by_text : Rows.indexTextsUptoRow.wfByText (Rows.OpenSpec.upto Rows.indexTextsSpec) = true := by kernel_rfl
theorem goes : false = Rows.indexTextsUptoRow.goesBy Tryz.pinned.checked.prog := by kernel_rfl
theorem main_is : Tryz.pinned.checked.prog.mainIs = some (true, "18d3e890ad8ddba31aca86c3687f0a056d554cac0096ab1e52b7de63cbc112c3".toList) := by kernel_rfl
theorem proved : Rows.IndexTextsUptoCardSaid :=
  Claim7.holds_tied_plain_at .later [] _ _ (true, "18d3e890ad8ddba31aca86c3687f0a056d554cac0096ab1e52b7de63cbc112c3") true said (fun _ h => by cases h) by_text (fun _ h => by cases h) indexTextsUpto_row_tie rfl ⟨rfl, rfl⟩ main_is rfl plain goes
end Go.Proofs.YthiafbkolhnadaaGreatDoor.indexTexts
end
