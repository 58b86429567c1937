/-
  The law IndexChecks (of any index and any path: checks, entries and the nearest entry are the document's) holds where what it reads is of bulk at most 1048576; the library's tables are tied to the program's text by the card.
-/
import Derived.Test.YthiafbkolhnadaaGreatDoorCards
import Derived.Test.YthiafbkolhnadaaGreatDoorTie
import Derived.KernelRfl
import Derived.JoinedCond
import Derived.SevenTiedAt
import Derived.Test.YthiafbkolhnadaaGreatDoorQa
namespace Go.Proofs.YthiafbkolhnadaaGreatDoor.indexChecks
open Go
set_option linter.unusedVariables false
set_option maxRecDepth 100000
set_option maxHeartbeats 4000000 in
theorem closed : joinedFacts Tryz.pinned.checked.prog 4 Tryz.f4 (Rows.OpenSpec.upto Rows.indexChecksSpec).bare Rows.indexChecksUptoRow = true := by
  unfold joinedFacts
  simp only [Bool.and_eq_true]
  repeat' apply And.intro
  all_goals as_aux_lemma => kernel_rfl
theorem named : Tryz.pinned.checked.prog.funcNamed Rows.indexChecksUptoRow.func = some 4 := by kernel_rfl
theorem inst : Tryz.f4.isInstance Tryz.pinned.checked.prog Rows.indexChecksUptoRow.origin Rows.indexChecksUptoRow.targs := of_decide_eq_true (by kernel_rfl)
theorem said : Rows.IndexChecksUptoSaid :=
  OpenClaim.holds_of_cond 4 Tryz.f4 rfl rfl rfl rfl rfl rfl rfl ⟨rfl, rfl, rfl, rfl, rfl⟩ rfl rfl rfl rfl rfl named Tryz.func4 closed
    inst (by unfold Func.isWrapper; first | (rw [if_pos (by decide +kernel)]; kernel_rfl) | (rw [if_neg (by decide +kernel)]; exact ⟨rfl, rfl⟩))
    (fun os started H enc _ F => by rw [OpenClaim.pre_eq_preRow]; exact lifted os started H enc F)
theorem plain (f : FuncId) (fn : Func) (hf : Tryz.pinned.checked.prog.funcNamed "datakit/datakitlaw34.IndexChecks" = some f) (hfn : Tryz.pinned.checked.prog.funcs[f]? = some fn) :
    true = Tryz.pinned.checked.prog.looks [] ∧ ∀ (j : Nat) t, fn.params[j]? = some t → Tryz.pinned.checked.prog.wantsStandIn t = false := by
  obtain rfl : f = 4 := Option.some.inj ((show Tryz.prog.funcNamed "datakit/datakitlaw34.IndexChecks" = some 4 by kernel_rfl).symm.trans hf) |>.symm
  obtain rfl : fn = Tryz.f4 := (Option.some.inj (Tryz.func4.symm.trans hfn)).symm
  refine ⟨by as_aux_lemma => kernel_rfl, fun j t ht => ?_⟩
  rw [Tryz.params4] at ht
  have hm : t ∈ [35, 28] := by simpa using Array.mem_of_getElem? ht
  have hall : ([35, 28].all fun u => !Tryz.prog.wantsStandIn u) = true := by kernel_rfl
  exact (show Tryz.prog.wantsStandIn t = false by simpa using List.all_eq_true.1 hall t hm)
theorem by_text : Rows.indexChecksUptoRow.wfByText (Rows.OpenSpec.upto Rows.indexChecksSpec) = true := by kernel_rfl
theorem goes : false = Rows.indexChecksUptoRow.goesBy Tryz.pinned.checked.prog := by kernel_rfl
theorem main_is : Tryz.pinned.checked.prog.mainIs = some (true, "18d3e890ad8ddba31aca86c3687f0a056d554cac0096ab1e52b7de63cbc112c3".toList) := by kernel_rfl
theorem proved : Rows.IndexChecksUptoCardSaid :=
  Claim7.holds_tied_plain_at .later [] _ _ (true, "18d3e890ad8ddba31aca86c3687f0a056d554cac0096ab1e52b7de63cbc112c3") true said (fun _ h => by cases h) by_text (fun _ h => by cases h) indexChecksUpto_row_tie rfl ⟨rfl, rfl⟩ main_is rfl plain goes
end Go.Proofs.YthiafbkolhnadaaGreatDoor.indexChecks
