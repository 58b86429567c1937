/- Sizes, field addresses and zero values of this translation's types. -/
import Derived.Test.YtmkihcdcgkdilaaRows
import Derived.Test.YtmkihcdcgkdilaaBb
namespace Go.Proofs.Ytmkihcdcgkdilaa
open Go Go.Dk
theorem sz3 : (Try.prog.info? 3).map (·.size) = some 1 := by kernel_rfl
theorem sz4 : (Try.prog.info? 4).map (·.size) = some 1 := by kernel_rfl
theorem sz5 : (Try.prog.info? 5).map (·.size) = some 1 := by kernel_rfl
theorem sz9 : (Try.prog.info? 9).map (·.size) = some 1 := by kernel_rfl
theorem sz22 : (Try.prog.info? 22).map (·.size) = some 1 := by kernel_rfl
theorem sz24 : (Try.prog.info? 24).map (·.size) = some 1 := by kernel_rfl
theorem sz26 : (Try.prog.info? 26).map (·.size) = some 3 := by kernel_rfl
theorem sz28 : (Try.prog.info? 28).map (·.size) = some 4 := by kernel_rfl
theorem sz29 : (Try.prog.info? 29).map (·.size) = some 1 := by kernel_rfl
theorem sz30 : (Try.prog.info? 30).map (·.size) = some 1 := by kernel_rfl
theorem sz31 : (Try.prog.info? 31).map (·.size) = some 1 := by kernel_rfl
theorem sz33 : (Try.prog.info? 33).map (·.size) = some 13 := by kernel_rfl
theorem sz35 : (Try.prog.info? 35).map (·.size) = some 29 := by kernel_rfl
theorem sz41 : (Try.prog.info? 41).map (·.size) = some 1 := by kernel_rfl
theorem sz43 : (Try.prog.info? 43).map (·.size) = some 2 := by kernel_rfl
theorem sz46 : (Try.prog.info? 46).map (·.size) = some 1 := by kernel_rfl
theorem sz50 : (Try.prog.info? 50).map (·.size) = some 1 := by kernel_rfl
theorem sz55 : (Try.prog.info? 55).map (·.size) = some 1 := by kernel_rfl
theorem sz57 : (Try.prog.info? 57).map (·.size) = some 40 := by kernel_rfl
theorem sz61 : (Try.prog.info? 61).map (·.size) = some 1 := by kernel_rfl
theorem sz75 : (Try.prog.info? 75).map (·.size) = some 1 := by kernel_rfl
theorem sz77 : (Try.prog.info? 77).map (·.size) = some 14 := by kernel_rfl
theorem sz82 : (Try.prog.info? 82).map (·.size) = some 1 := by kernel_rfl
theorem sz88 : (Try.prog.info? 88).map (·.size) = some 1 := by kernel_rfl
theorem sz90 : (Try.prog.info? 90).map (·.size) = some 2 := by kernel_rfl
theorem sz91 : (Try.prog.info? 91).map (·.size) = some 1 := by kernel_rfl
theorem sz94 : (Try.prog.info? 94).map (·.size) = some 4 := by kernel_rfl
theorem sz112 : (Try.prog.info? 112).map (·.size) = some 3 := by kernel_rfl
theorem sz123 : (Try.prog.info? 123).map (·.size) = some 1 := by kernel_rfl
theorem sz146 : (Try.prog.info? 146).map (·.size) = some 1 := by kernel_rfl
theorem sz162 : (Try.prog.info? 162).map (·.size) = some 1 := by kernel_rfl
theorem sz39 : (Try.prog.info? 39).map (·.size) = some 1 := by kernel_rfl
theorem sz121 : (Try.prog.info? 121).map (·.size) = some 1 := by kernel_rfl
theorem fa26_0 : FA Try.prog 26 0 0 := fa_of (tt := 4) Try.underlying26 rfl sz4 rfl
theorem fa26_1 : FA Try.prog 26 1 1 := fa_of (tt := 9) Try.underlying26 rfl sz9 rfl
theorem fa26_2 : FA Try.prog 26 2 2 := fa_of (tt := 3) Try.underlying26 rfl sz3 rfl
theorem fa28_0 : FA Try.prog 28 0 0 := fa_of (tt := 3) Try.underlying28 rfl sz3 rfl
theorem fa28_1 : FA Try.prog 28 1 1 := fa_of (tt := 3) Try.underlying28 rfl sz3 rfl
theorem fa28_2 : FA Try.prog 28 2 2 := fa_of (tt := 3) Try.underlying28 rfl sz3 rfl
theorem fa28_3 : FA Try.prog 28 3 3 := fa_of (tt := 3) Try.underlying28 rfl sz3 rfl
theorem fa33_0 : FA Try.prog 33 0 0 := fa_of (tt := 3) Try.underlying33 rfl sz3 rfl
theorem fa33_1 : FA Try.prog 33 1 1 := fa_of (tt := 4) Try.underlying33 rfl sz4 rfl
theorem fa33_2 : FA Try.prog 33 2 2 := fa_of (tt := 26) Try.underlying33 rfl sz26 rfl
theorem fa33_3 : FA Try.prog 33 3 5 := fa_of (tt := 28) Try.underlying33 rfl sz28 rfl
theorem fa33_4 : FA Try.prog 33 4 9 := fa_of (tt := 9) Try.underlying33 rfl sz9 rfl
theorem fa33_5 : FA Try.prog 33 5 10 := fa_of (tt := 29) Try.underlying33 rfl sz29 rfl
theorem fa33_6 : FA Try.prog 33 6 11 := fa_of (tt := 30) Try.underlying33 rfl sz30 rfl
theorem fa33_7 : FA Try.prog 33 7 12 := fa_of (tt := 31) Try.underlying33 rfl sz31 rfl
theorem fa35_0 : FA Try.prog 35 0 0 := fa_of (tt := 3) Try.underlying35 rfl sz3 rfl
theorem fa35_1 : FA Try.prog 35 1 1 := fa_of (tt := 24) Try.underlying35 rfl sz24 rfl
theorem fa35_2 : FA Try.prog 35 2 2 := fa_of (tt := 3) Try.underlying35 rfl sz3 rfl
theorem fa35_3 : FA Try.prog 35 3 3 := fa_of (tt := 33) Try.underlying35 rfl sz33 rfl
theorem fa35_4 : FA Try.prog 35 4 16 := fa_of (tt := 33) Try.underlying35 rfl sz33 rfl
theorem fa77_0 : FA Try.prog 77 0 0 := fa_of (tt := 9) Try.underlying77 rfl sz9 rfl
theorem fa77_1 : FA Try.prog 77 1 1 := fa_of (tt := 33) Try.underlying77 rfl sz33 rfl
theorem fa94_0 : FA Try.prog 94 0 0 := fa_of (tt := 24) Try.underlying94 rfl sz24 rfl
theorem fa94_1 : FA Try.prog 94 1 1 := fa_of (tt := 30) Try.underlying94 rfl sz30 rfl
theorem fa94_2 : FA Try.prog 94 2 2 := fa_of (tt := 30) Try.underlying94 rfl sz30 rfl
theorem fa94_3 : FA Try.prog 94 3 3 := fa_of (tt := 30) Try.underlying94 rfl sz30 rfl
theorem fa112_0 : FA Try.prog 112 0 0 := fa_of (tt := 4) Try.underlying112 rfl sz4 rfl
theorem fa112_1 : FA Try.prog 112 1 1 := fa_of (tt := 9) Try.underlying112 rfl sz9 rfl
theorem fa112_2 : FA Try.prog 112 2 2 := fa_of (tt := 3) Try.underlying112 rfl sz3 rfl
theorem fa90_0 : FA Try.prog 90 0 0 := fa_of (tt := 55) Try.underlying90 rfl sz55 rfl
theorem fa90_1 : FA Try.prog 90 1 1 := fa_of (tt := 50) Try.underlying90 rfl sz50 rfl
theorem fa57_0 : FA Try.prog 57 0 0 := fa_of (tt := 33) Try.underlying57 rfl sz33 rfl
theorem fa57_1 : FA Try.prog 57 1 13 := fa_of (tt := 33) Try.underlying57 rfl sz33 rfl
theorem fa57_2 : FA Try.prog 57 2 26 := fa_of (tt := 33) Try.underlying57 rfl sz33 rfl
theorem fa57_3 : FA Try.prog 57 3 39 := fa_of (tt := 55) Try.underlying57 rfl sz55 rfl
theorem z3 : Zero Try.prog 3 [.int .i64 0] := zero_of (v := .int .i64 0) (by kernel_rfl) rfl
theorem z4 : Zero Try.prog 4 [.bool false] := zero_of (v := .bool false) (by kernel_rfl) rfl
theorem z9 : Zero Try.prog 9 [.string ByteArray.empty] := zero_of (v := .string ByteArray.empty) (by kernel_rfl) rfl
theorem z22 : Zero Try.prog 22 [.slice none 0 0] := zero_of (v := .slice none 0 0) (by kernel_rfl) rfl
theorem z24 : Zero Try.prog 24 [.slice none 0 0] := zero_of (v := .slice none 0 0) (by kernel_rfl) rfl
theorem z26 : Zero Try.prog 26 [.bool false, .string ByteArray.empty, .int .i64 0] := zero_of (v := .agg #[.bool false, .string ByteArray.empty, .int .i64 0]) (by kernel_rfl) rfl
theorem z28 : Zero Try.prog 28 [.int .i64 0, .int .i64 0, .int .i64 0, .int .i64 0] := zero_of (v := .agg #[.int .i64 0, .int .i64 0, .int .i64 0, .int .i64 0]) (by kernel_rfl) rfl
theorem z29 : Zero Try.prog 29 [.slice none 0 0] := zero_of (v := .slice none 0 0) (by kernel_rfl) rfl
theorem z30 : Zero Try.prog 30 [.slice none 0 0] := zero_of (v := .slice none 0 0) (by kernel_rfl) rfl
theorem z31 : Zero Try.prog 31 [.slice none 0 0] := zero_of (v := .slice none 0 0) (by kernel_rfl) rfl
theorem z33 : Zero Try.prog 33 [.int .i64 0, .bool false, .bool false, .string ByteArray.empty, .int .i64 0, .int .i64 0, .int .i64 0, .int .i64 0, .int .i64 0, .string ByteArray.empty, .slice none 0 0, .slice none 0 0, .slice none 0 0] := zero_of (v := .agg #[.int .i64 0, .bool false, .bool false, .string ByteArray.empty, .int .i64 0, .int .i64 0, .int .i64 0, .int .i64 0, .int .i64 0, .string ByteArray.empty, .slice none 0 0, .slice none 0 0, .slice none 0 0]) (by kernel_rfl) rfl
theorem z35 : Zero Try.prog 35 [.int .i64 0, .slice none 0 0, .int .i64 0, .int .i64 0, .bool false, .bool false, .string ByteArray.empty, .int .i64 0, .int .i64 0, .int .i64 0, .int .i64 0, .int .i64 0, .string ByteArray.empty, .slice none 0 0, .slice none 0 0, .slice none 0 0, .int .i64 0, .bool false, .bool false, .string ByteArray.empty, .int .i64 0, .int .i64 0, .int .i64 0, .int .i64 0, .int .i64 0, .string ByteArray.empty, .slice none 0 0, .slice none 0 0, .slice none 0 0] := zero_of (v := .agg #[.int .i64 0, .slice none 0 0, .int .i64 0, .int .i64 0, .bool false, .bool false, .string ByteArray.empty, .int .i64 0, .int .i64 0, .int .i64 0, .int .i64 0, .int .i64 0, .string ByteArray.empty, .slice none 0 0, .slice none 0 0, .slice none 0 0, .int .i64 0, .bool false, .bool false, .string ByteArray.empty, .int .i64 0, .int .i64 0, .int .i64 0, .int .i64 0, .int .i64 0, .string ByteArray.empty, .slice none 0 0, .slice none 0 0, .slice none 0 0]) (by kernel_rfl) rfl
theorem z43 : Zero Try.prog 43 [.int .i64 0, .int .i64 0] := zero_of (v := .agg #[.int .i64 0, .int .i64 0]) (by kernel_rfl) rfl
theorem z77 : Zero Try.prog 77 [.string ByteArray.empty, .int .i64 0, .bool false, .bool false, .string ByteArray.empty, .int .i64 0, .int .i64 0, .int .i64 0, .int .i64 0, .int .i64 0, .string ByteArray.empty, .slice none 0 0, .slice none 0 0, .slice none 0 0] := zero_of (v := .agg #[.string ByteArray.empty, .int .i64 0, .bool false, .bool false, .string ByteArray.empty, .int .i64 0, .int .i64 0, .int .i64 0, .int .i64 0, .int .i64 0, .string ByteArray.empty, .slice none 0 0, .slice none 0 0, .slice none 0 0]) (by kernel_rfl) rfl
theorem z94 : Zero Try.prog 94 [.slice none 0 0, .slice none 0 0, .slice none 0 0, .slice none 0 0] := zero_of (v := .agg #[.slice none 0 0, .slice none 0 0, .slice none 0 0, .slice none 0 0]) (by kernel_rfl) rfl
theorem z112 : Zero Try.prog 112 [.bool false, .string ByteArray.empty, .int .i64 0] := zero_of (v := .agg #[.bool false, .string ByteArray.empty, .int .i64 0]) (by kernel_rfl) rfl
theorem z90 : Zero Try.prog 90 [.slice none 0 0, .slice none 0 0] := zero_of (v := .agg #[.slice none 0 0, .slice none 0 0]) (by kernel_rfl) rfl
theorem z75 : Zero Try.prog 75 [.pointer none] := zero_of (v := .pointer none) (by kernel_rfl) rfl
theorem z91 : Zero Try.prog 91 [.slice none 0 0] := zero_of (v := .slice none 0 0) (by kernel_rfl) rfl
theorem z41 : Zero Try.prog 41 [.slice none 0 0] := zero_of (v := .slice none 0 0) (by kernel_rfl) rfl
theorem z46 : Zero Try.prog 46 [.slice none 0 0] := zero_of (v := .slice none 0 0) (by kernel_rfl) rfl
theorem z50 : Zero Try.prog 50 [.slice none 0 0] := zero_of (v := .slice none 0 0) (by kernel_rfl) rfl
theorem z82 : Zero Try.prog 82 [.slice none 0 0] := zero_of (v := .slice none 0 0) (by kernel_rfl) rfl
theorem z121 : Zero Try.prog 121 [.nilFunc] := zero_of (v := .nilFunc) (by kernel_rfl) rfl
theorem z123 : Zero Try.prog 123 [.slice none 0 0] := zero_of (v := .slice none 0 0) (by kernel_rfl) rfl
theorem ei3 : EI Try.prog 3 1 8 := ei_of (z := .int .i64 0) (by kernel_rfl) rfl rfl rfl
theorem ei4 : EI Try.prog 4 1 1 := ei_of (z := .bool false) (by kernel_rfl) rfl rfl rfl
theorem ei5 : EI Try.prog 5 1 1 := ei_of (z := .int .u8 0) (by kernel_rfl) rfl rfl rfl
theorem ei9 : EI Try.prog 9 1 16 := ei_of (z := .string ByteArray.empty) (by kernel_rfl) rfl rfl rfl
theorem ei22 : EI Try.prog 22 1 24 := ei_of (z := .slice none 0 0) (by kernel_rfl) rfl rfl rfl
theorem ei24 : EI Try.prog 24 1 24 := ei_of (z := .slice none 0 0) (by kernel_rfl) rfl rfl rfl
theorem ei26 : EI Try.prog 26 3 32 := ei_of (z := .agg #[.bool false, .string ByteArray.empty, .int .i64 0]) (by kernel_rfl) rfl rfl rfl
theorem ei28 : EI Try.prog 28 4 32 := ei_of (z := .agg #[.int .i64 0, .int .i64 0, .int .i64 0, .int .i64 0]) (by kernel_rfl) rfl rfl rfl
theorem ei29 : EI Try.prog 29 1 24 := ei_of (z := .slice none 0 0) (by kernel_rfl) rfl rfl rfl
theorem ei30 : EI Try.prog 30 1 24 := ei_of (z := .slice none 0 0) (by kernel_rfl) rfl rfl rfl
theorem ei31 : EI Try.prog 31 1 24 := ei_of (z := .slice none 0 0) (by kernel_rfl) rfl rfl rfl
theorem ei33 : EI Try.prog 33 13 168 := ei_of (z := .agg #[.int .i64 0, .bool false, .bool false, .string ByteArray.empty, .int .i64 0, .int .i64 0, .int .i64 0, .int .i64 0, .int .i64 0, .string ByteArray.empty, .slice none 0 0, .slice none 0 0, .slice none 0 0]) (by kernel_rfl) rfl rfl rfl
theorem ei35 : EI Try.prog 35 29 376 := ei_of (z := .agg #[.int .i64 0, .slice none 0 0, .int .i64 0, .int .i64 0, .bool false, .bool false, .string ByteArray.empty, .int .i64 0, .int .i64 0, .int .i64 0, .int .i64 0, .int .i64 0, .string ByteArray.empty, .slice none 0 0, .slice none 0 0, .slice none 0 0, .int .i64 0, .bool false, .bool false, .string ByteArray.empty, .int .i64 0, .int .i64 0, .int .i64 0, .int .i64 0, .int .i64 0, .string ByteArray.empty, .slice none 0 0, .slice none 0 0, .slice none 0 0]) (by kernel_rfl) rfl rfl rfl
theorem ei43 : EI Try.prog 43 2 16 := ei_of (z := .agg #[.int .i64 0, .int .i64 0]) (by kernel_rfl) rfl rfl rfl
theorem ei77 : EI Try.prog 77 14 184 := ei_of (z := .agg #[.string ByteArray.empty, .int .i64 0, .bool false, .bool false, .string ByteArray.empty, .int .i64 0, .int .i64 0, .int .i64 0, .int .i64 0, .int .i64 0, .string ByteArray.empty, .slice none 0 0, .slice none 0 0, .slice none 0 0]) (by kernel_rfl) rfl rfl rfl
theorem ei94 : EI Try.prog 94 4 96 := ei_of (z := .agg #[.slice none 0 0, .slice none 0 0, .slice none 0 0, .slice none 0 0]) (by kernel_rfl) rfl rfl rfl
theorem ei112 : EI Try.prog 112 3 32 := ei_of (z := .agg #[.bool false, .string ByteArray.empty, .int .i64 0]) (by kernel_rfl) rfl rfl rfl
theorem ei82 : EI Try.prog 82 1 24 := ei_of (z := .slice none 0 0) (by kernel_rfl) rfl rfl rfl
theorem ei46 : EI Try.prog 46 1 24 := ei_of (z := .slice none 0 0) (by kernel_rfl) rfl rfl rfl
theorem ei41 : EI Try.prog 41 1 24 := ei_of (z := .slice none 0 0) (by kernel_rfl) rfl rfl rfl
theorem z5 : Zero Try.prog 5 [.int .u8 0] := zero_of (v := .int .u8 0) (by kernel_rfl) rfl
end Go.Proofs.Ytmkihcdcgkdilaa
