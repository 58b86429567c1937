/-
  Several texts in one: Ql
-/
import Derived.Test.YthiafbkolhnadaaGreatDoorCards
import Derived.Test.YthiafbkolhnadaaGreatDoorTie
import Derived.KernelRfl
import Derived.JoinedCond
import Derived.SevenTiedAt
set_option linter.unusedSimpArgs false
set_option linter.unusedVariables false
set_option maxHeartbeats 4000000
set_option maxRecDepth 100000
section
namespace Go.Proofs.YthiafbkolhnadaaGreatDoor.indexBuilds
open Go
set_option maxRecDepth 100000
theorem by_text:Rows.indexBuildsRow.wfByText (OpenSpec.ofChange Rows.indexBuildsSpec)=true:=by kernel_rfl
theorem plain (f : FuncId) (fn : Func) (hf : Tryz.pinned.checked.prog.funcNamed "datakit/datakitlaw34.IndexBuilds" = some f) (hfn : Tryz.pinned.checked.prog.funcs[f]? = some fn) :
  true=Tryz.pinned.checked.prog.looks []∧∀ (j:Nat) t,fn.params[j]?=some t→Tryz.pinned.checked.prog.wantsStandIn t=false:=by
 obtain rfl : f = 3 := Option.some.inj ((show Tryz.prog.funcNamed "datakit/datakitlaw34.IndexBuilds" = some 3 by kernel_rfl).symm.trans hf) |>.symm;obtain rfl : fn = Tryz.f3 := (Option.some.inj (Tryz.func3.symm.trans hfn)).symm;refine ⟨by as_aux_lemma => kernel_rfl, fun j t ht => ?_⟩;rw [Tryz.params3] at ht;have hm : t ∈ [30] := by simpa using Array.mem_of_getElem? ht
 have hall:([30].all fun u=>!Tryz.prog.wantsStandIn u)=true:=by kernel_rfl
 exact (show Tryz.prog.wantsStandIn t=false by simpa using List.all_eq_true.1 hall t hm)
end Go.Proofs.YthiafbkolhnadaaGreatDoor.indexBuilds
end
