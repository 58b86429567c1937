/-
  Sizes, field addresses and zero values of the types used.
-/
import Derived.Test.YthiafbkolhnadaaGreatDoorProg
import Derived.Test.YthiafbkolhnadaaGreatDoorBc
import Derived.KernelRfl
import Derived.ProofKit
set_option linter.unusedSimpArgs false
set_option linter.unusedVariables false
namespace Go.Proofs.YthiafbkolhnadaaGreatDoor
open Go Go.Dk Go.RowKit Go.Lib
attribute [local irreducible] Go.wpList Go.Code.wp Go.bodyPost Go.wpStill
theorem sz3 : (Tryz.prog.info? 3).map (·.size) = some 1 := by kernel_rfl
theorem sz4 : (Tryz.prog.info? 4).map (·.size) = some 1 := by kernel_rfl
theorem sz5 : (Tryz.prog.info? 5).map (·.size) = some 1 := by kernel_rfl
theorem sz9 : (Tryz.prog.info? 9).map (·.size) = some 1 := by kernel_rfl
theorem sz28 : (Tryz.prog.info? 28).map (·.size) = some 1 := by kernel_rfl
theorem sz107 : (Tryz.prog.info? 107).map (·.size) = some 3 := by kernel_rfl
theorem sz48 : (Tryz.prog.info? 48).map (·.size) = some 2 := by kernel_rfl
theorem sz52 : (Tryz.prog.info? 52).map (·.size) = some 3 := by kernel_rfl
theorem sz32 : (Tryz.prog.info? 32).map (·.size) = some 1 := by kernel_rfl
theorem sz33 : (Tryz.prog.info? 33).map (·.size) = some 1 := by kernel_rfl
theorem sz35 : (Tryz.prog.info? 35).map (·.size) = some 5 := by kernel_rfl
theorem sz36 : (Tryz.prog.info? 36).map (·.size) = some 1 := by kernel_rfl
theorem fa107_0 : FA Tryz.prog 107 0 0 := fa_of (tt := 4) Tryz.underlying107 rfl sz4 rfl
theorem fa107_1 : FA Tryz.prog 107 1 1 := fa_of (tt := 9) Tryz.underlying107 rfl sz9 rfl
theorem fa107_2 : FA Tryz.prog 107 2 2 := fa_of (tt := 3) Tryz.underlying107 rfl sz3 rfl
theorem fa48_0 : FA Tryz.prog 48 0 0 := fa_of (tt := 3) Tryz.underlying48 rfl sz3 rfl
theorem fa48_1 : FA Tryz.prog 48 1 1 := fa_of (tt := 3) Tryz.underlying48 rfl sz3 rfl
theorem fa52_0 : FA Tryz.prog 52 0 0 := fa_of (tt := 28) Tryz.underlying52 rfl sz28 rfl
theorem fa52_1 : FA Tryz.prog 52 1 1 := fa_of (tt := 48) Tryz.underlying52 rfl sz48 rfl
theorem fa35_0 : FA Tryz.prog 35 0 0 := fa_of (tt := 3) Tryz.underlying35 rfl sz3 rfl
theorem fa35_1 : FA Tryz.prog 35 1 1 := fa_of (tt := 3) Tryz.underlying35 rfl sz3 rfl
theorem fa35_2 : FA Tryz.prog 35 2 2 := fa_of (tt := 3) Tryz.underlying35 rfl sz3 rfl
theorem fa35_3 : FA Tryz.prog 35 3 3 := fa_of (tt := 32) Tryz.underlying35 rfl sz32 rfl
theorem fa35_4 : FA Tryz.prog 35 4 4 := fa_of (tt := 33) Tryz.underlying35 rfl sz33 rfl
theorem z3 : Zero Tryz.prog 3 [.int .i64 0] := zero_of (v := .int .i64 0) (by kernel_rfl) rfl
theorem ei3 : EI Tryz.prog 3 1 8 := ei_of (z := .int .i64 0) (by kernel_rfl) rfl rfl rfl
theorem z4 : Zero Tryz.prog 4 [.bool false] := zero_of (v := .bool false) (by kernel_rfl) rfl
theorem ei4 : EI Tryz.prog 4 1 1 := ei_of (z := .bool false) (by kernel_rfl) rfl rfl rfl
theorem z5 : Zero Tryz.prog 5 [.int .u8 0] := zero_of (v := .int .u8 0) (by kernel_rfl) rfl
theorem ei5 : EI Tryz.prog 5 1 1 := ei_of (z := .int .u8 0) (by kernel_rfl) rfl rfl rfl
theorem z9 : Zero Tryz.prog 9 [.string ByteArray.empty] := zero_of (v := .string ByteArray.empty) (by kernel_rfl) rfl
theorem ei9 : EI Tryz.prog 9 1 16 := ei_of (z := .string ByteArray.empty) (by kernel_rfl) rfl rfl rfl
theorem z28 : Zero Tryz.prog 28 [.slice none 0 0] := zero_of (v := .slice none 0 0) (by kernel_rfl) rfl
theorem ei28 : EI Tryz.prog 28 1 24 := ei_of (z := .slice none 0 0) (by kernel_rfl) rfl rfl rfl
theorem z107 : Zero Tryz.prog 107 [.bool false, .string ByteArray.empty, .int .i64 0] := zero_of (v := .agg #[.bool false, .string ByteArray.empty, .int .i64 0]) (by kernel_rfl) rfl
theorem ei107 : EI Tryz.prog 107 3 32 := ei_of (z := .agg #[.bool false, .string ByteArray.empty, .int .i64 0]) (by kernel_rfl) rfl rfl rfl
theorem z48 : Zero Tryz.prog 48 [.int .i64 0, .int .i64 0] := zero_of (v := .agg #[.int .i64 0, .int .i64 0]) (by kernel_rfl) rfl
theorem ei48 : EI Tryz.prog 48 2 16 := ei_of (z := .agg #[.int .i64 0, .int .i64 0]) (by kernel_rfl) rfl rfl rfl
theorem z52 : Zero Tryz.prog 52 [.slice none 0 0, .int .i64 0, .int .i64 0] := zero_of (v := .agg #[.slice none 0 0, .int .i64 0, .int .i64 0]) (by kernel_rfl) rfl
theorem ei52 : EI Tryz.prog 52 3 40 := ei_of (z := .agg #[.slice none 0 0, .int .i64 0, .int .i64 0]) (by kernel_rfl) rfl rfl rfl
theorem z32 : Zero Tryz.prog 32 [.slice none 0 0] := zero_of (v := .slice none 0 0) (by kernel_rfl) rfl
theorem ei32 : EI Tryz.prog 32 1 24 := ei_of (z := .slice none 0 0) (by kernel_rfl) rfl rfl rfl
theorem z33 : Zero Tryz.prog 33 [.slice none 0 0] := zero_of (v := .slice none 0 0) (by kernel_rfl) rfl
theorem ei33 : EI Tryz.prog 33 1 24 := ei_of (z := .slice none 0 0) (by kernel_rfl) rfl rfl rfl
theorem z35 : Zero Tryz.prog 35 [.int .i64 0, .int .i64 0, .int .i64 0, .slice none 0 0, .slice none 0 0] := zero_of (v := .agg #[.int .i64 0, .int .i64 0, .int .i64 0, .slice none 0 0, .slice none 0 0]) (by kernel_rfl) rfl
theorem ei35 : EI Tryz.prog 35 5 72 := ei_of (z := .agg #[.int .i64 0, .int .i64 0, .int .i64 0, .slice none 0 0, .slice none 0 0]) (by kernel_rfl) rfl rfl rfl
theorem z36 : Zero Tryz.prog 36 [.int .i64 0] := zero_of (v := .int .i64 0) (by kernel_rfl) rfl
theorem ei36 : EI Tryz.prog 36 1 8 := ei_of (z := .int .i64 0) (by kernel_rfl) rfl rfl rfl
theorem ei8 : EI8 Tryz.prog 5 := ei8_of (by kernel_rfl)
theorem mixed : Tryz.prog.follows .mixedOrders = true := by kernel_rfl
theorem eqg107 : Tryz.prog.eqGuardType Tryz.prog.depth 107 = false := by kernel_rfl
theorem ne107 (a1 b1 : Bool) (a2 b2 : ByteArray) (a3 b3 : Int) (w : World) :
    (binOp .neq 107 (.agg #[.bool a1, .string a2, .int .i64 a3]) (.agg #[.bool b1, .string b2, .int .i64 b3])).run Tryz.prog w = .ok (.bool (!(a1 == b1 && (decide (a2 = b2) && a3 == b3)))) w := by
  go_simp
  by_cases h1 : a1 = b1 <;> by_cases h2 : a2 = b2 <;> by_cases h3 : a3 = b3 <;> simp [h1, h2, h3, toList_inj]
theorem eqg48 : Tryz.prog.eqGuardType Tryz.prog.depth 48 = false := by kernel_rfl
theorem eq48 (a1 b1 a2 b2 : Int) (w : World) :
    (binOp .eql 48 (.agg #[.int .i64 a1, .int .i64 a2]) (.agg #[.int .i64 b1, .int .i64 b2])).run Tryz.prog w = .ok (.bool (a1 == b1 && a2 == b2)) w := by
  go_simp
  by_cases h1 : a1 = b1 <;> by_cases h2 : a2 = b2 <;> simp [h1, h2]
end Go.Proofs.YthiafbkolhnadaaGreatDoor
