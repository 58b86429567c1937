/-
  Several texts in one: Qh
-/
import Derived.Test.YthiafbkolhnadaaGreatDoorCards
import Derived.Test.YthiafbkolhnadaaGreatDoorTie
import Derived.KernelRfl
import Derived.JoinedCond
import Derived.SevenTiedAt
set_option linter.unusedSimpArgs false
set_option linter.unusedVariables false
set_option maxHeartbeats 4000000
set_option maxRecDepth 10000
section
namespace Go.Proofs.YthiafbkolhnadaaGreatDoor.indexParses
open Go
set_option maxRecDepth 100000
theorem by_text:Rows.indexParsesUptoRow.wfByText (Rows.OpenSpec.upto Rows.indexParsesSpec)=true:=by kernel_rfl
theorem plain (f : FuncId) (fn : Func) (hf : Tryz.pinned.checked.prog.funcNamed "datakit/datakitlaw34.IndexParses" = some f) (hfn : Tryz.pinned.checked.prog.funcs[f]? = some fn) :
  true=Tryz.pinned.checked.prog.looks []∧∀ (j:Nat) t,fn.params[j]?=some t→Tryz.pinned.checked.prog.wantsStandIn t=false:=by
 obtain rfl : f = 6 := Option.some.inj ((show Tryz.prog.funcNamed "datakit/datakitlaw34.IndexParses" = some 6 by kernel_rfl).symm.trans hf) |>.symm
 obtain rfl:fn=Tryz.f6:=(Option.some.inj (Tryz.func6.symm.trans hfn)).symm
 refine ⟨by as_aux_lemma=>kernel_rfl,fun j t ht=>?_⟩
 rw [Tryz.params6] at ht
 have hm:t∈[9]:=by simpa using Array.mem_of_getElem? ht
 have hall:([9].all fun u=>!Tryz.prog.wantsStandIn u)=true:=by kernel_rfl
 exact (show Tryz.prog.wantsStandIn t=false by simpa using List.all_eq_true.1 hall t hm)
end Go.Proofs.YthiafbkolhnadaaGreatDoor.indexParses
end
