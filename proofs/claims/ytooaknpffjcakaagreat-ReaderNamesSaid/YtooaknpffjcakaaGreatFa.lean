/-
  What the reckoning is given of this program.
-/
import Derived.Test.YtooaknpffjcakaaGreatProg
import Derived.Test.YtooaknpffjcakaaGreatEm
import Derived.KernelRfl
set_option linter.unusedVariables false
set_option maxRecDepth 100000
namespace Go.Proofs.YtooaknpffjcakaaGreat
open Go Go.Ev Go.RowKit Go.Dk

noncomputable def ixRow : List Value → Option Value := fun xs => pr Tryz.prog (Extern.BytealgIndexByte.indexByte xs.toArray)
theorem ex123n : Extern.findNext Tryz.f123 = none := by kernel_rfl
theorem ex123 : Extern.find Tryz.f123 = some Extern.BytealgIndexByte.indexByte := by kernel_rfl
theorem run123 (xs : List Value) (v : Value) (h : ixRow xs = some v) (w : World) : (callFunc 123 xs.toArray).run Tryz.prog w = .ok (.value v) w := by
  have hf : Tryz.prog.funcs[123]? = some Tryz.f123 := Tryz.func123
  have hn : (Tryz.f123.name == "runtime.NumGoroutine") = false := by kernel_rfl
  have hb : Tryz.f123.body.isNone = true := by kernel_rfl
  have hr : (Extern.BytealgIndexByte.indexByte xs.toArray).run Tryz.prog w = .ok v w := pr_run h w
  simp [callFunc, hf, hn, hb, ex123n, ex123]
  rw [if_neg (by simpa using hn), if_pos (by simpa using hb)]
  simp [hr]

/-- the functions without a body, and the one name that is no plain call -/
def bad : List Nat := [0, 1, 30, 31, 32, 33, 34, 35, 36, 37, 38, 39, 40, 41, 42, 43, 44, 45, 46, 47, 48, 51, 123, 131, 134, 135, 136, 139, 224, 225, 226, 227, 228, 231, 309, 310, 311, 314, 350, 351, 352]
noncomputable def env0 : Env0 where
  good := fun f => Nat.blt f 354 && !memN f bad
  ext := fun f xs => bif Nat.beq f 123 then ixRow xs else none
  sp := fun _ => none
def goodF (P : Program) (f : Nat) : Bool := match P.funcs[f]? with
  | some fn => !fn.body.isNone && !(fn.name == "runtime.NumGoroutine")
  | none => false
theorem good_all : ((List.range 354).all fun f => memN f bad || goodF Tryz.prog f) = true := by kernel_rfl
end Go.Proofs.YtooaknpffjcakaaGreat
