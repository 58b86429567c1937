/-
  What the reckoning is given of this program.
-/
import Derived.Test.YthiafbkolhnadaaGreatDoorProg
import Derived.Test.YthiafbkolhnadaaGreatDoorEm
import Derived.KernelRfl
set_option linter.unusedVariables false
set_option maxRecDepth 100000
namespace Go.Proofs.YthiafbkolhnadaaGreatDoor
open Go Go.Ev Go.RowKit Go.Dk

noncomputable def ixRow : List Value → Option Value := fun xs => pr Tryz.prog (Extern.BytealgIndexByte.indexByte xs.toArray)
theorem ex372n : Extern.findNext Tryz.f372 = none := by kernel_rfl
theorem ex372 : Extern.find Tryz.f372 = some Extern.BytealgIndexByte.indexByte := by kernel_rfl
theorem run372 (xs : List Value) (v : Value) (h : ixRow xs = some v) (w : World) : (callFunc 372 xs.toArray).run Tryz.prog w = .ok (.value v) w := by
  have hf : Tryz.prog.funcs[372]? = some Tryz.f372 := Tryz.func372
  have hn : (Tryz.f372.name == "runtime.NumGoroutine") = false := by kernel_rfl
  have hb : Tryz.f372.body.isNone = true := by kernel_rfl
  have hr : (Extern.BytealgIndexByte.indexByte xs.toArray).run Tryz.prog w = .ok v w := pr_run h w
  simp [callFunc, hf, hn, hb, ex372n, ex372]
  rw [if_neg (by simpa using hn), if_pos (by simpa using hb)]
  simp [hr]

/-- the functions without a body, and the one name that is no plain call -/
def bad : List Nat := [0, 1, 241, 314, 348, 349, 372, 407, 414, 415, 416, 417, 418, 419, 420, 421, 422, 423, 424, 425, 426, 427, 428, 429, 430, 431, 432, 433, 434, 435, 436, 437, 438, 439, 440, 441, 442, 443]
noncomputable def env0 : Env0 where
  good := fun f => Nat.blt f 445 && !memN f bad
  ext := fun f xs => bif Nat.beq f 372 then ixRow xs else none
  sp := fun _ => none
def goodF (P : Program) (f : Nat) : Bool := match P.funcs[f]? with
  | some fn => !fn.body.isNone && !(fn.name == "runtime.NumGoroutine")
  | none => false
theorem good_all : ((List.range 445).all fun f => memN f bad || goodF Tryz.prog f) = true := by kernel_rfl
end Go.Proofs.YthiafbkolhnadaaGreatDoor
