/-
  Several texts in one: Fa
-/
import Derived.Test.YthlkmblljanfmaaGreatDoorProg
import Derived.Test.YthlkmblljanfmaaGreatDoorWC
import Derived.KernelRfl
section
set_option linter.unusedVariables false
set_option maxRecDepth 100000
namespace Go.Proofs.YthlkmblljanfmaaGreatDoor
open Go Go.Ev Go.RowKit Go.Dk
noncomputable def ixRow : List Value → Option Value := fun xs => pr Tryz.prog (Extern.BytealgIndexByte.indexByte xs.toArray)
theorem ex249n : Extern.findNext Tryz.f249 = none := by kernel_rfl
theorem ex249 : Extern.find Tryz.f249 = some Extern.BytealgIndexByte.indexByte := by kernel_rfl
theorem run249 (xs : List Value) (v : Value) (h : ixRow xs = some v) (w : World) : (callFunc 249 xs.toArray).run Tryz.prog w = .ok (.value v) w := by
  have hf : Tryz.prog.funcs[249]? = some Tryz.f249 := Tryz.func249
  have hn : (Tryz.f249.name == "runtime.NumGoroutine") = false := by kernel_rfl
  have hb : Tryz.f249.body.isNone = true := by kernel_rfl
  have hr : (Extern.BytealgIndexByte.indexByte xs.toArray).run Tryz.prog w = .ok v w := pr_run h w
  simp [callFunc, hf, hn, hb, ex249n, ex249]
  rw [if_neg (by simpa using hn), if_pos (by simpa using hb)]
  simp [hr]
theorem ex201n : Extern.findNext Tryz.f201 = none := by kernel_rfl
theorem ex201 : Extern.find Tryz.f201 = some Extern.AbiNoEscape.same := by kernel_rfl
theorem run201 (x : Value) (w : World) : (callFunc 201 #[x]).run Tryz.prog w = .ok (.value x) w := by
  have hf : Tryz.prog.funcs[201]? = some Tryz.f201 := Tryz.func201
  have hn : (Tryz.f201.name == "runtime.NumGoroutine") = false := by kernel_rfl
  have hb : Tryz.f201.body.isNone = true := by kernel_rfl
  have hr : (Extern.AbiNoEscape.same #[x]).run Tryz.prog w = .ok x w := rfl
  simp [callFunc, hf, hn, hb, ex201n, ex201]
  rw [if_neg (by simpa using hn), if_pos (by simpa using hb)]
  simp [hr]
def bad : List Nat := [0, 1, 201, 224, 235, 249, 261, 264, 287, 288, 289, 290, 291, 292, 293, 294, 295, 296, 297, 298, 299, 300, 301, 302, 303, 304, 305, 306, 312, 365, 446, 526, 544, 545, 546, 547, 548, 549, 550, 551, 552]
noncomputable def env0 : Env0 where
  good := fun f => Nat.blt f 554 && !memN f bad
  ext := fun f xs => bif Nat.beq f 249 then ixRow xs else none
  sp := fun _ => none
  idf := fun f => Nat.beq f 201
def goodF (P : Program) (f : Nat) : Bool := match P.funcs[f]? with
  | some fn => !fn.body.isNone && !(fn.name == "runtime.NumGoroutine")
  | none => false
theorem good_all : ((List.range 554).all fun f => memN f bad || goodF Tryz.prog f) = true := by kernel_rfl
end Go.Proofs.YthlkmblljanfmaaGreatDoor
end
