/-
  Plain: where an encoding begins, and how long it is: three ways of telling that agree.
-/
import Derived.Test.YthiafbkolhnadaaGreatDoorPa
import Derived.Lib.DecodeN
import Derived.Lib.ValidLaws
set_option linter.unusedVariables false
set_option linter.unusedSimpArgs false
namespace Go.Dk
open Go Go.RowKit Go.Lib

/-- how many bytes the encoding takes that begins with these; 0: none -/
def dz (n b0 b1 b2 b3 : Nat) : Nat := if decodeN n b0 b1 b2 b3 = (65533, 1) then 0 else (decodeN n b0 b1 b2 b3).2
/-- a byte of a string, 0 beyond the end -/
def bA (s : ByteArray) (j : Nat) : Nat := (s.data.toList.getD j 0).toNat
theorem bA_lt (s : ByteArray) (j : Nat) : bA s j < 256 := (s.data.toList.getD j 0).toNat_lt
theorem byteAt_bA (s : ByteArray) (j : Nat) : byteAt s (j : Int) = (bA s j : Int) := rfl
def szAt (s : ByteArray) (a : Nat) : Nat := dz (s.size - a) (bA s a) (bA s (a + 1)) (bA s (a + 2)) (bA s (a + 3))
theorem dz_bad {n b0 b1 b2 b3 : Nat} (e : decodeN n b0 b1 b2 b3 = (65533, 1)) : dz n b0 b1 b2 b3 = 0 := by unfold dz; rw [if_pos e]
theorem dz_good {n b0 b1 b2 b3 r k : Nat} (e : decodeN n b0 b1 b2 b3 = (r, k)) (h : r ≠ 65533 ∨ k ≠ 1) : dz n b0 b1 b2 b3 = k := by
  unfold dz
  rw [e, if_neg]
  intro h2
  simp only [Prod.mk.injEq] at h2
  omega
theorem dz_1 {n b0 b1 b2 b3 : Nat} (h : b0 < 128) : dz n b0 b1 b2 b3 = 1 :=
  dz_good (r := b0) (by unfold decodeN; rw [if_pos h]) (by omega)
theorem dz_mid {n b0 b1 b2 b3 : Nat} (h : 128 ≤ b0) (h2 : b0 < 192 ∨ 248 ≤ b0) (h3 : b0 < 256) : dz n b0 b1 b2 b3 = 0 :=
  dz_bad (by unfold decodeN; rw [if_neg (by omega), if_neg (by omega), if_neg (by omega), if_neg (by omega)])
theorem dz_no2 {n b0 b1 b2 b3 : Nat} (h : 192 ≤ b0) (h2 : b0 < 224) (h3 : n < 2 ∨ b1 / 64 ≠ 2) : dz n b0 b1 b2 b3 = 0 :=
  dz_bad (by unfold decodeN; rw [if_neg (by omega), if_neg (by omega), if_neg (by omega), if_neg (by omega)])
theorem dz_2 {n b0 b1 b2 b3 : Nat} (h : 192 ≤ b0) (h2 : b0 < 224) (h3 : 2 ≤ n) (h4 : b1 / 64 = 2) : dz n b0 b1 b2 b3 = if 128 ≤ b0 % 32 * 64 + b1 % 64 then 2 else 0 := by
  by_cases hc : 128 ≤ b0 % 32 * 64 + b1 % 64
  · rw [if_pos hc]
    exact dz_good (r := b0 % 32 * 64 + b1 % 64) (by unfold decodeN; rw [if_neg (by omega), if_pos (by omega), if_pos hc]) (by omega)
  · rw [if_neg hc]
    exact dz_bad (by unfold decodeN; rw [if_neg (by omega), if_pos (by omega), if_neg hc])
theorem dz_no3 {n b0 b1 b2 b3 : Nat} (h : 224 ≤ b0) (h2 : b0 < 240) (h3 : n < 3 ∨ b1 / 64 ≠ 2 ∨ b2 / 64 ≠ 2) : dz n b0 b1 b2 b3 = 0 :=
  dz_bad (by unfold decodeN; rw [if_neg (by omega), if_neg (by omega), if_neg (by omega), if_neg (by omega)])
theorem dz_3 {n b0 b1 b2 b3 : Nat} (h : 224 ≤ b0) (h2 : b0 < 240) (h3 : 3 ≤ n) (h4 : b1 / 64 = 2) (h5 : b2 / 64 = 2) :
    dz n b0 b1 b2 b3 = if b0 % 16 * 4096 + b1 % 64 * 64 + b2 % 64 ≥ 2048 ∧ (b0 % 16 * 4096 + b1 % 64 * 64 + b2 % 64 < 55296 ∨ 57344 ≤ b0 % 16 * 4096 + b1 % 64 * 64 + b2 % 64) then 3 else 0 := by
  by_cases hc : b0 % 16 * 4096 + b1 % 64 * 64 + b2 % 64 ≥ 2048 ∧ (b0 % 16 * 4096 + b1 % 64 * 64 + b2 % 64 < 55296 ∨ 57344 ≤ b0 % 16 * 4096 + b1 % 64 * 64 + b2 % 64)
  · rw [if_pos hc]
    exact dz_good (r := b0 % 16 * 4096 + b1 % 64 * 64 + b2 % 64) (by unfold decodeN; rw [if_neg (by omega), if_neg (by omega), if_pos (by omega), if_pos (by omega)]) (by omega)
  · rw [if_neg hc]
    exact dz_bad (by unfold decodeN; rw [if_neg (by omega), if_neg (by omega), if_pos (by omega), if_neg (by omega)])
theorem dz_no4 {n b0 b1 b2 b3 : Nat} (h : 240 ≤ b0) (h2 : b0 < 248) (h3 : n < 4 ∨ b1 / 64 ≠ 2 ∨ b2 / 64 ≠ 2 ∨ b3 / 64 ≠ 2) : dz n b0 b1 b2 b3 = 0 :=
  dz_bad (by unfold decodeN; rw [if_neg (by omega), if_neg (by omega), if_neg (by omega), if_neg (by omega)])
theorem dz_4 {n b0 b1 b2 b3 : Nat} (h : 240 ≤ b0) (h2 : b0 < 248) (h3 : 4 ≤ n) (h4 : b1 / 64 = 2) (h5 : b2 / 64 = 2) (h6 : b3 / 64 = 2) :
    dz n b0 b1 b2 b3 = if b0 % 8 * 262144 + b1 % 64 * 4096 + b2 % 64 * 64 + b3 % 64 ≥ 65536 ∧ b0 % 8 * 262144 + b1 % 64 * 4096 + b2 % 64 * 64 + b3 % 64 ≤ 1114111 then 4 else 0 := by
  by_cases hc : b0 % 8 * 262144 + b1 % 64 * 4096 + b2 % 64 * 64 + b3 % 64 ≥ 65536 ∧ b0 % 8 * 262144 + b1 % 64 * 4096 + b2 % 64 * 64 + b3 % 64 ≤ 1114111
  · rw [if_pos hc]
    exact dz_good (r := b0 % 8 * 262144 + b1 % 64 * 4096 + b2 % 64 * 64 + b3 % 64) (by unfold decodeN; rw [if_neg (by omega), if_neg (by omega), if_neg (by omega), if_pos (by omega), if_pos (by omega)]) (by omega)
  · rw [if_neg hc]
    exact dz_bad (by unfold decodeN; rw [if_neg (by omega), if_neg (by omega), if_neg (by omega), if_pos (by omega), if_neg (by omega)])
theorem dz_le (n b0 b1 b2 b3 : Nat) (hn : 1 ≤ n) : dz n b0 b1 b2 b3 ≤ n ∧ dz n b0 b1 b2 b3 ≤ 4 := by
  unfold dz
  split
  · omega
  · unfold decodeN
    repeat' split
    all_goals (simp only; omega)
theorem szAt_le (s : ByteArray) (a : Nat) (h : a < s.size) : a + szAt s a ≤ s.size ∧ szAt s a ≤ 4 := by
  have := dz_le (s.size - a) (bA s a) (bA s (a + 1)) (bA s (a + 2)) (bA s (a + 3)) (by omega)
  unfold szAt
  omega

/-! ### texts -/
theorem getb (l : List UInt8) (a j : Nat) : ((⟨(l.drop a).toArray⟩ : ByteArray).get! j) = l.getD (a + j) 0 := by
  unfold ByteArray.get!
  simp [List.getD, List.getElem?_drop]
  rfl
theorem decodeL_szAt (s : ByteArray) (a : Nat) (h : a < s.size) : decodeL (s.data.toList.drop a) = decodeN (s.size - a) (bA s a) (bA s (a + 1)) (bA s (a + 2)) (bA s (a + 3)) := by
  unfold decodeL
  rw [decode_at]
  have hs : (⟨(s.data.toList.drop a).toArray⟩ : ByteArray).size - 0 = s.size - a := by
    show (s.data.toList.drop a).toArray.size - 0 = s.data.size - a
    rw [List.size_toArray, List.length_drop, Array.length_toList]
    rfl
  rw [hs, getb, getb, getb, getb]
  rfl
theorem valid_0 (s : ByteArray) (a : Nat) (h : a < s.size) (hz : szAt s a = 0) : validD (s.data.toList.drop a) = false := by
  have hne : s.data.toList.drop a ≠ [] := by
    intro e
    have := congrArg List.length e
    simp at this
    have h2 : s.data.size = s.size := rfl
    omega
  rw [validD_step _ hne, decodeL_szAt s a h]
  have hb : decodeN (s.size - a) (bA s a) (bA s (a + 1)) (bA s (a + 2)) (bA s (a + 3)) = (65533, 1) := by
    unfold szAt dz at hz
    split at hz
    · assumption
    · exfalso
      revert hz
      unfold decodeN
      repeat' split
      all_goals simp
  rw [hb]; simp
theorem valid_n (s : ByteArray) (a : Nat) (h : a < s.size) (hz : szAt s a ≠ 0) : validD (s.data.toList.drop a) = validD (s.data.toList.drop (a + szAt s a)) := by
  have hne : s.data.toList.drop a ≠ [] := by
    intro e
    have := congrArg List.length e
    simp at this
    have h2 : s.data.size = s.size := rfl
    omega
  rw [validD_step _ hne, decodeL_szAt s a h]
  unfold szAt dz at hz ⊢
  split at hz
  · exact absurd rfl hz
  · rename_i hn
    rw [if_neg hn, if_neg (fun e => hn (Prod.ext e.1 e.2)), List.drop_drop]
theorem valid_end (s : ByteArray) (a : Nat) (h : s.size ≤ a) : validD (s.data.toList.drop a) = true := by
  rw [List.drop_eq_nil_of_le (by simpa using h)]
  exact validD_nil

/-! ### the numbers that bytes spell -/
def accN (s : ByteArray) (a r0 : Nat) : Nat → Nat
  | 0 => r0
  | i + 1 => accN s a r0 i * 64 + bA s (a + (i + 1)) % 64
theorem accN_lt (s : ByteArray) (a r0 : Nat) (h : r0 < 256) : ∀ i, i ≤ 3 → accN s a r0 i < 256 * 64 ^ i
  | 0, _ => by simpa [accN] using h
  | i + 1, hi => by
    have := accN_lt s a r0 h i (by omega)
    simp only [accN, Nat.pow_succ]
    omega
theorem and_lows : ∀ b : Fin 256, bitOp .and .i64 (b.val : Int) 7 = ((b.val % 8 : Nat) : Int) ∧ bitOp .and .i64 (b.val : Int) 15 = ((b.val % 16 : Nat) : Int) ∧ bitOp .and .i64 (b.val : Int) 31 = ((b.val % 32 : Nat) : Int) ∧ bitOp .and .i64 (b.val : Int) 63 = ((b.val % 64 : Nat) : Int) := by decide +kernel
theorem and_low8 : ∀ b : Fin 256, bitOp .and .u8 (b.val : Int) 7 = ((b.val % 8 : Nat) : Int) ∧ bitOp .and .u8 (b.val : Int) 15 = ((b.val % 16 : Nat) : Int) ∧ bitOp .and .u8 (b.val : Int) 31 = ((b.val % 32 : Nat) : Int) ∧ bitOp .and .u8 (b.val : Int) 63 = ((b.val % 64 : Nat) : Int) ∧ (bitOp .and .u8 (b.val : Int) 192 = 128 ↔ b.val / 64 = 2) := by decide +kernel
theorem or_highs : ∀ b : Fin 64, bitOp .or .i64 128 (b.val : Int) = ((128 + b.val : Nat) : Int) ∧ (b.val < 32 → bitOp .or .i64 192 (b.val : Int) = ((192 + b.val : Nat) : Int)) ∧ (b.val < 16 → bitOp .or .i64 224 (b.val : Int) = ((224 + b.val : Nat) : Int)) ∧ (b.val < 8 → bitOp .or .i64 240 (b.val : Int) = ((240 + b.val : Nat) : Int)) := by decide +kernel
theorem and7 {b : Nat} (h : b < 256) : bitOp .and .i64 (b : Int) 7 = ((b % 8 : Nat) : Int) := (and_lows ⟨b, h⟩).1
theorem and15 {b : Nat} (h : b < 256) : bitOp .and .i64 (b : Int) 15 = ((b % 16 : Nat) : Int) := (and_lows ⟨b, h⟩).2.1
theorem and31 {b : Nat} (h : b < 256) : bitOp .and .i64 (b : Int) 31 = ((b % 32 : Nat) : Int) := (and_lows ⟨b, h⟩).2.2.1
theorem and63 {b : Nat} (h : b < 256) : bitOp .and .i64 (b : Int) 63 = ((b % 64 : Nat) : Int) := (and_lows ⟨b, h⟩).2.2.2
theorem and7b {b : Nat} (h : b < 256) : bitOp .and .u8 (b : Int) 7 = ((b % 8 : Nat) : Int) := (and_low8 ⟨b, h⟩).1
theorem and15b {b : Nat} (h : b < 256) : bitOp .and .u8 (b : Int) 15 = ((b % 16 : Nat) : Int) := (and_low8 ⟨b, h⟩).2.1
theorem and31b {b : Nat} (h : b < 256) : bitOp .and .u8 (b : Int) 31 = ((b % 32 : Nat) : Int) := (and_low8 ⟨b, h⟩).2.2.1
theorem and63b {b : Nat} (h : b < 256) : bitOp .and .u8 (b : Int) 63 = ((b % 64 : Nat) : Int) := (and_low8 ⟨b, h⟩).2.2.2.1
theorem and192b {b : Nat} (h : b < 256) : bitOp .and .u8 (b : Int) 192 = 128 ↔ b / 64 = 2 := (and_low8 ⟨b, h⟩).2.2.2.2
theorem or128 {b : Nat} (h : b < 64) : bitOp .or .i64 128 (b : Int) = ((128 + b : Nat) : Int) := (or_highs ⟨b, h⟩).1
theorem or192 {b : Nat} (h : b < 32) : bitOp .or .i64 192 (b : Int) = ((192 + b : Nat) : Int) := (or_highs ⟨b, by omega⟩).2.1 h
theorem or224 {b : Nat} (h : b < 16) : bitOp .or .i64 224 (b : Int) = ((224 + b : Nat) : Int) := (or_highs ⟨b, by omega⟩).2.2.1 h
theorem or240 {b : Nat} (h : b < 8) : bitOp .or .i64 240 (b : Int) = ((240 + b : Nat) : Int) := (or_highs ⟨b, by omega⟩).2.2.2 h
theorem ofI (n : Nat) : BitVec.ofInt 64 (n : Int) = BitVec.ofNat 64 n := by
  apply BitVec.eq_of_toNat_eq
  simp
theorem shl6 {r : Nat} (h : r < 4294967296) : shl .i64 (r : Int) 6 = ((r * 64 : Nat) : Int) := by
  unfold shl
  have : IntKind.i64.wrap ((r : Int) * 2 ^ min 6 IntKind.i64.bits) = ((r * 64 : Nat) : Int) := by
    have e : ((r : Int) * 2 ^ min 6 IntKind.i64.bits) = ((r * 64 : Nat) : Int) := by
      simp [IntKind.bits]
    rw [e]
    exact IntWalk.i64_in _ (by omega)
  exact this
theorem or_add {r x : Nat} (h : r < 4294967296) (hx : x < 64) : bitOp .or .i64 ((r * 64 : Nat) : Int) (x : Int) = ((r * 64 + x : Nat) : Int) := by
  unfold bitOp
  simp only
  have e1 : IntKind.i64.bits = 64 := rfl
  rw [e1, ofI, ofI, BitVec.toNat_or, BitVec.toNat_ofNat, BitVec.toNat_ofNat, Nat.mod_eq_of_lt (by omega), Nat.mod_eq_of_lt (by omega)]
  have e2 : r * 64 ||| x = r * 64 + x := by
    have := Nat.shiftLeft_add_eq_or_of_lt (i := 6) (show x < 2 ^ 6 by omega) r
    rw [Nat.shiftLeft_eq] at this
    exact this.symm
  rw [e2]
  exact IntWalk.i64_in _ (by omega)
theorem shrN {r : Nat} (k : Nat) (hk : k ≤ 64) : shr .i64 (r : Int) k = ((r / 2 ^ k : Nat) : Int) := by
  unfold shr
  have e : min k IntKind.i64.bits = k := by simp [IntKind.bits]; omega
  rw [e, Int.fdiv_eq_ediv_of_nonneg _ (Int.pow_nonneg (by decide)), Int.natCast_ediv]
  simp
theorem and63N {r : Nat} (h : r < 4294967296) : bitOp .and .i64 (r : Int) 63 = ((r % 64 : Nat) : Int) := by
  unfold bitOp
  simp only
  have e1 : IntKind.i64.bits = 64 := rfl
  have e2 : (63 : Int) = ((63 : Nat) : Int) := rfl
  rw [e1, e2, ofI, ofI, BitVec.toNat_and, BitVec.toNat_ofNat, BitVec.toNat_ofNat, Nat.mod_eq_of_lt (by omega), Nat.mod_eq_of_lt (by omega)]
  have e3 : r &&& 63 = r % 64 := Nat.and_two_pow_sub_one_eq_mod r 6
  rw [e3]
  exact IntWalk.i64_in _ (by omega)
theorem u8_in {n : Nat} (h : n < 256) : IntKind.u8.wrap (n : Int) = (n : Int) := by
  simp [IntKind.wrap, IntKind.signed, IntKind.bits]; omega
theorem strOf_1 (a : Nat) (ha : a < 256) : strOf [(a : Int)] = bs [UInt8.ofNat a] := by simp [strOf, bs]; rfl
def chN (r : Nat) : Bool := decide (r ≤ 1114111) && (decide (r < 55296) || decide (57343 < r))
/-- the encoding of a character -/
def encN (r : Nat) : List UInt8 :=
  if chN r = false then [] else if r < 128 then [UInt8.ofNat r] else if r < 2048 then [UInt8.ofNat (192 + r / 64), UInt8.ofNat (128 + r % 64)]
  else if r < 65536 then [UInt8.ofNat (224 + r / 4096), UInt8.ofNat (128 + r / 64 % 64), UInt8.ofNat (128 + r % 64)]
  else [UInt8.ofNat (240 + r / 262144), UInt8.ofNat (128 + r / 4096 % 64), UInt8.ofNat (128 + r / 64 % 64), UInt8.ofNat (128 + r % 64)]
def hdR (b : Nat) : Nat × Nat := if 240 ≤ b then (4, b % 8) else if 224 ≤ b then (3, b % 16) else if 192 ≤ b then (2, b % 32) else (1, b)
def hdU (b : Nat) : Nat × Nat := if b < 128 then (1, b) else if 192 ≤ b ∧ b < 224 then (2, b % 32) else if 224 ≤ b ∧ b < 240 then (3, b % 16) else if 240 ≤ b ∧ b < 248 then (4, b % 8) else (0, 0)
def wdN (r : Nat) : Nat := if r < 128 then 1 else if r < 2048 then 2 else if r < 65536 then 3 else 4
theorem u8n (x : Nat) (c : UInt8) (h : x < 256) : UInt8.ofNat x = c ↔ x = c.toNat := by
  constructor
  · rintro rfl; exact (u8t h).symm
  · rintro rfl; exact UInt8.ofNat_toNat
theorem chN_iff (r : Nat) : chN r = true ↔ r ≤ 1114111 ∧ (r < 55296 ∨ 57343 < r) := by
  unfold chN
  simp
theorem chN_no (r : Nat) : chN r = false ↔ ¬ (r ≤ 1114111 ∧ (r < 55296 ∨ 57343 < r)) := by
  rw [← chN_iff]; simp
theorem bA_i (s : ByteArray) (j : Nat) (h : j < s.size) : s.data.toList.drop j = (s.data.toList.getD j 0) :: s.data.toList.drop (j + 1) := by
  have h' : j < s.data.toList.length := by simpa using h
  rw [List.drop_eq_getElem_cons h']
  simp [List.getD, List.getElem?_eq_getElem h']
/-- the program's way: the head, the rest, the number -/
theorem szU_short {s : ByteArray} {a : Nat} (ha : a < s.size) (h : (hdU (bA s a)).1 = 0 ∨ s.size - a < (hdU (bA s a)).1) : szAt s a = 0 := by
  have h0 := bA_lt s a
  unfold szAt
  unfold hdU at h
  by_cases h1 : bA s a < 128
  · rw [if_pos h1] at h; simp only at h; omega
  · rw [if_neg h1] at h
    by_cases h2 : 192 ≤ bA s a ∧ bA s a < 224
    · rw [if_pos h2] at h; simp only at h
      exact dz_no2 h2.1 h2.2 (.inl (by omega))
    · rw [if_neg h2] at h
      by_cases h3 : 224 ≤ bA s a ∧ bA s a < 240
      · rw [if_pos h3] at h; simp only at h
        exact dz_no3 h3.1 h3.2 (.inl (by omega))
      · rw [if_neg h3] at h
        by_cases h4 : 240 ≤ bA s a ∧ bA s a < 248
        · rw [if_pos h4] at h; simp only at h
          exact dz_no4 h4.1 h4.2 (.inl (by omega))
        · exact dz_mid (by omega) (by omega) h0
theorem szU_cont {s : ByteArray} {a i : Nat} (h1 : 1 ≤ i) (h2 : i < (hdU (bA s a)).1) (h : bA s (a + i) / 64 ≠ 2) : szAt s a = 0 := by
  have h0 := bA_lt s a
  unfold szAt
  unfold hdU at h2
  split at h2
  · simp only at h2; omega
  · split at h2
    · rename_i h3; simp only at h2
      obtain rfl : i = 1 := by omega
      exact dz_no2 h3.1 h3.2 (.inr h)
    · split at h2
      · rename_i h3; simp only at h2
        refine dz_no3 h3.1 h3.2 ?_
        have : i = 1 ∨ i = 2 := by omega
        rcases this with rfl | rfl
        · exact .inr (.inl h)
        · exact .inr (.inr h)
      · split at h2
        · rename_i h3; simp only at h2
          refine dz_no4 h3.1 h3.2 ?_
          have : i = 1 ∨ i = 2 ∨ i = 3 := by omega
          rcases this with rfl | rfl | rfl
          · exact .inr (.inl h)
          · exact .inr (.inr (.inl h))
          · exact .inr (.inr (.inr h))
        · simp only at h2; omega
theorem szU_end {s : ByteArray} {a : Nat} (ha : a < s.size) (h0 : (hdU (bA s a)).1 ≠ 0) (hn : (hdU (bA s a)).1 ≤ s.size - a) (hc : ∀ i, 1 ≤ i → i < (hdU (bA s a)).1 → bA s (a + i) / 64 = 2) :
    szAt s a = if chN (accN s a (hdU (bA s a)).2 ((hdU (bA s a)).1 - 1)) = true ∧ wdN (accN s a (hdU (bA s a)).2 ((hdU (bA s a)).1 - 1)) = (hdU (bA s a)).1 then (hdU (bA s a)).1 else 0 := by
  have hb := bA_lt s a
  unfold szAt
  by_cases h1 : bA s a < 128
  · have e : hdU (bA s a) = (1, bA s a) := by unfold hdU; rw [if_pos h1]
    rw [dz_1 h1, e]
    simp only [Nat.sub_self, accN]
    rw [if_pos]
    exact ⟨(chN_iff _).2 (by omega), by unfold wdN; rw [if_pos h1]⟩
  · by_cases h2 : 192 ≤ bA s a ∧ bA s a < 224
    · have e : hdU (bA s a) = (2, bA s a % 32) := by unfold hdU; rw [if_neg h1, if_pos h2]
      rw [e] at hn hc ⊢
      simp only at hn hc ⊢
      rw [dz_2 h2.1 h2.2 hn (hc 1 (by omega) (by omega))]
      simp only [accN, Nat.zero_add, chN_iff]
      unfold wdN
      repeat' split
      all_goals omega
    · by_cases h3 : 224 ≤ bA s a ∧ bA s a < 240
      · have e : hdU (bA s a) = (3, bA s a % 16) := by unfold hdU; rw [if_neg h1, if_neg h2, if_pos h3]
        rw [e] at hn hc ⊢
        simp only at hn hc ⊢
        rw [dz_3 h3.1 h3.2 hn (hc 1 (by omega) (by omega)) (hc 2 (by omega) (by omega))]
        simp only [accN, Nat.zero_add, chN_iff]
        unfold wdN
        repeat' split
        all_goals omega
      · by_cases h4 : 240 ≤ bA s a ∧ bA s a < 248
        · have e : hdU (bA s a) = (4, bA s a % 8) := by unfold hdU; rw [if_neg h1, if_neg h2, if_neg h3, if_pos h4]
          rw [e] at hn hc ⊢
          simp only at hn hc ⊢
          rw [dz_4 h4.1 h4.2 hn (hc 1 (by omega) (by omega)) (hc 2 (by omega) (by omega)) (hc 3 (by omega) (by omega))]
          simp only [accN, Nat.zero_add, chN_iff]
          unfold wdN
          repeat' split
          all_goals omega
        · exfalso
          apply h0
          unfold hdU
          rw [if_neg h1, if_neg h2, if_neg h3, if_neg h4]
theorem szR_short {s : ByteArray} {a : Nat} (ha : a < s.size) (h : s.size - a < (hdR (bA s a)).1) : szAt s a = 0 := by
  have h0 := bA_lt s a
  unfold szAt
  unfold hdR at h
  by_cases h4 : 240 ≤ bA s a
  · rw [if_pos h4] at h; simp only at h
    by_cases h5 : bA s a < 248
    · exact dz_no4 h4 h5 (.inl h)
    · exact dz_mid (by omega) (by omega) h0
  · rw [if_neg h4] at h
    by_cases h3 : 224 ≤ bA s a
    · rw [if_pos h3] at h; simp only at h
      exact dz_no3 h3 (by omega) (.inl h)
    · rw [if_neg h3] at h
      by_cases h2 : 192 ≤ bA s a
      · rw [if_pos h2] at h; simp only at h
        exact dz_no2 h2 (by omega) (.inl h)
      · rw [if_neg h2] at h; simp only at h; omega
/-- the reference's way: the encoding of the number again -/
theorem szR_end {s : ByteArray} {a : Nat} (ha : a < s.size) (hn : (hdR (bA s a)).1 ≤ s.size - a) :
    szAt s a = if chN (accN s a (hdR (bA s a)).2 ((hdR (bA s a)).1 - 1)) = true ∧ encN (accN s a (hdR (bA s a)).2 ((hdR (bA s a)).1 - 1)) = (s.data.toList.drop a).take (hdR (bA s a)).1 then (hdR (bA s a)).1 else 0 := by
  have hb0 := bA_lt s a
  have hb1 := bA_lt s (a + 1)
  have hb2 := bA_lt s (a + 2)
  have hb3 := bA_lt s (a + 3)
  unfold szAt
  by_cases h4 : 240 ≤ bA s a
  · have e : hdR (bA s a) = (4, bA s a % 8) := by unfold hdR; rw [if_pos h4]
    rw [e] at hn ⊢
    simp only at hn ⊢
    have d0 := bA_i s a (by omega)
    have d1 := bA_i s (a + 1) (by omega)
    have d2 := bA_i s (a + 1 + 1) (by omega)
    have d3 := bA_i s (a + 1 + 1 + 1) (by omega)
    rw [d0, d1, d2, d3]
    simp only [List.take_succ_cons, List.take_zero, accN, Nat.zero_add]
    generalize hr : ((bA s a % 8 * 64 + bA s (a + 1) % 64) * 64 + bA s (a + (1 + 1)) % 64) * 64 + bA s (a + (1 + 1 + 1)) % 64 = r
    have hr' : bA s a % 8 * 262144 + bA s (a + 1) % 64 * 4096 + bA s (a + 2) % 64 * 64 + bA s (a + 3) % 64 = r := by (have e2 : bA s (a + (1 + 1)) = bA s (a + 2) := rfl); (have e3 : bA s (a + (1 + 1 + 1)) = bA s (a + 3) := rfl); rw [← hr]; omega
    have henc : (chN r = true ∧ encN r = [s.data.toList.getD a 0, s.data.toList.getD (a + 1) 0, s.data.toList.getD (a + 1 + 1) 0, s.data.toList.getD (a + 1 + 1 + 1) 0]) ↔ (65536 ≤ r ∧ r ≤ 1114111 ∧ 240 + r / 262144 = bA s a ∧ 128 + r / 4096 % 64 = bA s (a + 1) ∧ 128 + r / 64 % 64 = bA s (a + 2) ∧ 128 + r % 64 = bA s (a + 3)) := by
      constructor
      · rintro ⟨c1, c2⟩
        have c3 := (chN_iff r).1 c1
        unfold encN at c2
        rw [if_neg (by rw [c1]; exact Bool.noConfusion)] at c2
        split at c2
        · simp at c2
        · split at c2
          · simp at c2
          · split at c2
            · simp at c2
            · simp only [List.cons.injEq, and_true] at c2
              rw [u8n _ _ (by omega), u8n _ _ (by omega), u8n _ _ (by omega), u8n _ _ (by omega)] at c2
              exact ⟨by omega, by omega, c2.1, c2.2.1, c2.2.2.1, c2.2.2.2⟩
      · rintro ⟨c1, c2, c3, c4, c5, c6⟩
        have c7 : chN r = true := (chN_iff r).2 (by omega)
        refine ⟨c7, ?_⟩
        unfold encN
        rw [if_neg (by rw [c7]; exact Bool.noConfusion), if_neg (by omega), if_neg (by omega), if_neg (by omega)]
        simp only [List.cons.injEq, and_true]
        rw [u8n _ _ (by omega), u8n _ _ (by omega), u8n _ _ (by omega), u8n _ _ (by omega)]
        exact ⟨c3, c4, c5, c6⟩
    rw [show (if (chN r = true ∧ encN r = [s.data.toList.getD a 0, s.data.toList.getD (a + 1) 0, s.data.toList.getD (a + 1 + 1) 0, s.data.toList.getD (a + 1 + 1 + 1) 0]) then 4 else 0) = (if (65536 ≤ r ∧ r ≤ 1114111 ∧ 240 + r / 262144 = bA s a ∧ 128 + r / 4096 % 64 = bA s (a + 1) ∧ 128 + r / 64 % 64 = bA s (a + 2) ∧ 128 + r % 64 = bA s (a + 3)) then 4 else 0) by simp only [henc]]
    by_cases h5 : bA s a < 248
    · by_cases hc : bA s (a + 1) / 64 = 2 ∧ bA s (a + 2) / 64 = 2 ∧ bA s (a + 3) / 64 = 2
      · rw [dz_4 h4 h5 hn hc.1 hc.2.1 hc.2.2, hr']
        repeat' split
        all_goals omega
      · rw [dz_no4 h4 h5 (.inr (by omega)), if_neg (by omega)]
    · rw [dz_mid (by omega) (by omega) hb0, if_neg (by omega)]
  · by_cases h3 : 224 ≤ bA s a
    · have e : hdR (bA s a) = (3, bA s a % 16) := by unfold hdR; rw [if_neg h4, if_pos h3]
      rw [e] at hn ⊢
      simp only at hn ⊢
      have d0 := bA_i s a (by omega)
      have d1 := bA_i s (a + 1) (by omega)
      have d2 := bA_i s (a + 1 + 1) (by omega)
      rw [d0, d1, d2]
      simp only [List.take_succ_cons, List.take_zero, accN, Nat.zero_add]
      generalize hr : (bA s a % 16 * 64 + bA s (a + 1) % 64) * 64 + bA s (a + (1 + 1)) % 64 = r
      have hr' : bA s a % 16 * 4096 + bA s (a + 1) % 64 * 64 + bA s (a + 2) % 64 = r := by (have e2 : bA s (a + (1 + 1)) = bA s (a + 2) := rfl); (have e3 : bA s (a + (1 + 1 + 1)) = bA s (a + 3) := rfl); rw [← hr]; omega
      have henc : (chN r = true ∧ encN r = [s.data.toList.getD a 0, s.data.toList.getD (a + 1) 0, s.data.toList.getD (a + 1 + 1) 0]) ↔ (2048 ≤ r ∧ (r < 55296 ∨ 57343 < r) ∧ 224 + r / 4096 = bA s a ∧ 128 + r / 64 % 64 = bA s (a + 1) ∧ 128 + r % 64 = bA s (a + 2)) := by
        constructor
        · rintro ⟨c1, c2⟩
          have c3 := (chN_iff r).1 c1
          unfold encN at c2
          rw [if_neg (by rw [c1]; exact Bool.noConfusion)] at c2
          split at c2
          · simp at c2
          · split at c2
            · simp at c2
            · split at c2
              · simp only [List.cons.injEq, and_true] at c2
                rw [u8n _ _ (by omega), u8n _ _ (by omega), u8n _ _ (by omega)] at c2
                exact ⟨by omega, by omega, c2.1, c2.2.1, c2.2.2⟩
              · simp at c2
        · rintro ⟨c1, c2, c3, c4, c5⟩
          have c7 : chN r = true := (chN_iff r).2 (by omega)
          refine ⟨c7, ?_⟩
          unfold encN
          rw [if_neg (by rw [c7]; exact Bool.noConfusion), if_neg (by omega), if_neg (by omega), if_pos (by omega)]
          simp only [List.cons.injEq, and_true]
          rw [u8n _ _ (by omega), u8n _ _ (by omega), u8n _ _ (by omega)]
          exact ⟨c3, c4, c5⟩
      rw [show (if (chN r = true ∧ encN r = [s.data.toList.getD a 0, s.data.toList.getD (a + 1) 0, s.data.toList.getD (a + 1 + 1) 0]) then 3 else 0) = (if (2048 ≤ r ∧ (r < 55296 ∨ 57343 < r) ∧ 224 + r / 4096 = bA s a ∧ 128 + r / 64 % 64 = bA s (a + 1) ∧ 128 + r % 64 = bA s (a + 2)) then 3 else 0) by simp only [henc]]
      by_cases hc : bA s (a + 1) / 64 = 2 ∧ bA s (a + 2) / 64 = 2
      · rw [dz_3 h3 (by omega) hn hc.1 hc.2, hr']
        repeat' split
        all_goals omega
      · rw [dz_no3 h3 (by omega) (.inr (by omega)), if_neg (by omega)]
    · by_cases h2 : 192 ≤ bA s a
      · have e : hdR (bA s a) = (2, bA s a % 32) := by unfold hdR; rw [if_neg h4, if_neg h3, if_pos h2]
        rw [e] at hn ⊢
        simp only at hn ⊢
        have d0 := bA_i s a (by omega)
        have d1 := bA_i s (a + 1) (by omega)
        rw [d0, d1]
        simp only [List.take_succ_cons, List.take_zero, accN, Nat.zero_add]
        generalize hr : bA s a % 32 * 64 + bA s (a + 1) % 64 = r
        have henc : (chN r = true ∧ encN r = [s.data.toList.getD a 0, s.data.toList.getD (a + 1) 0]) ↔ (128 ≤ r ∧ 192 + r / 64 = bA s a ∧ 128 + r % 64 = bA s (a + 1)) := by
          constructor
          · rintro ⟨c1, c2⟩
            have c3 := (chN_iff r).1 c1
            unfold encN at c2
            rw [if_neg (by rw [c1]; exact Bool.noConfusion)] at c2
            split at c2
            · simp at c2
            · split at c2
              · simp only [List.cons.injEq, and_true] at c2
                rw [u8n _ _ (by omega), u8n _ _ (by omega)] at c2
                exact ⟨by omega, c2.1, c2.2⟩
              · split at c2
                · simp at c2
                · simp at c2
          · rintro ⟨c1, c3, c4⟩
            have c7 : chN r = true := (chN_iff r).2 (by omega)
            refine ⟨c7, ?_⟩
            unfold encN
            rw [if_neg (by rw [c7]; exact Bool.noConfusion), if_neg (by omega), if_pos (by omega)]
            simp only [List.cons.injEq, and_true]
            rw [u8n _ _ (by omega), u8n _ _ (by omega)]
            exact ⟨c3, c4⟩
        rw [show (if (chN r = true ∧ encN r = [s.data.toList.getD a 0, s.data.toList.getD (a + 1) 0]) then 2 else 0) = (if (128 ≤ r ∧ 192 + r / 64 = bA s a ∧ 128 + r % 64 = bA s (a + 1)) then 2 else 0) by simp only [henc]]
        by_cases hc : bA s (a + 1) / 64 = 2
        · rw [dz_2 h2 (by omega) hn hc, hr]
          repeat' split
          all_goals omega
        · rw [dz_no2 h2 (by omega) (.inr hc), if_neg (by omega)]
      · have e : hdR (bA s a) = (1, bA s a) := by unfold hdR; rw [if_neg h4, if_neg h3, if_neg h2]
        rw [e] at hn ⊢
        simp only at hn ⊢
        have d0 := bA_i s a (by omega)
        rw [d0]
        simp only [List.take_succ_cons, List.take_zero, Nat.sub_self, accN]
        generalize hr : bA s a = r at *
        have henc : (chN r = true ∧ encN r = [s.data.toList.getD a 0]) ↔ r < 128 := by
          constructor
          · rintro ⟨c1, c2⟩
            unfold encN at c2
            rw [if_neg (by rw [c1]; exact Bool.noConfusion)] at c2
            split at c2
            · assumption
            · split at c2
              · simp at c2
              · split at c2 <;> simp at c2
          · intro c1
            have c7 : chN r = true := (chN_iff r).2 (by omega)
            refine ⟨c7, ?_⟩
            unfold encN
            rw [if_neg (by rw [c7]; exact Bool.noConfusion), if_pos c1]
            simp only [List.cons.injEq, and_true]
            rw [u8n _ _ (by omega)]
            exact hr.symm
        rw [show (if (chN r = true ∧ encN r = [s.data.toList.getD a 0]) then 1 else 0) = (if r < 128 then 1 else 0) by simp only [henc]]
        by_cases h1 : r < 128
        · rw [dz_1 h1, if_pos h1]
        · rw [dz_mid (by omega) (by omega) hb0, if_neg h1]
end Go.Dk
namespace Go.Dk
open Go Go.RowKit Go.Lib
theorem hdR_lo (b : Nat) : 1 ≤ (hdR b).1 ∧ (hdR b).1 ≤ 4 ∧ ((hdR b).2 < 256 ∨ 256 ≤ b) := by
  unfold hdR
  repeat' split
  all_goals (simp only; omega)
theorem hdU_lo (b : Nat) (h : b < 256) : (hdU b).1 ≤ 4 ∧ (hdU b).2 < 256 := by
  unfold hdU
  repeat' split
  all_goals (simp only; omega)
theorem strOf_w1 {a : Nat} (ha : a < 256) : strOf [IntKind.u8.wrap (a : Int)] = bs [UInt8.ofNat a] := by
  rw [u8_in ha]; simp [strOf, bs]; rfl
theorem strOf_w2 {a b : Nat} (ha : a < 256) (hb : b < 256) : strOf [IntKind.u8.wrap (a : Int), IntKind.u8.wrap (b : Int)] = bs [UInt8.ofNat a, UInt8.ofNat b] := by
  rw [u8_in ha, u8_in hb]; simp [strOf, bs]; rfl
theorem strOf_w3 {a b c : Nat} (ha : a < 256) (hb : b < 256) (hc : c < 256) : strOf [IntKind.u8.wrap (a : Int), IntKind.u8.wrap (b : Int), IntKind.u8.wrap (c : Int)] = bs [UInt8.ofNat a, UInt8.ofNat b, UInt8.ofNat c] := by
  rw [u8_in ha, u8_in hb, u8_in hc]; simp [strOf, bs]; rfl
theorem strOf_w4 {a b c d : Nat} (ha : a < 256) (hb : b < 256) (hc : c < 256) (hd : d < 256) : strOf [IntKind.u8.wrap (a : Int), IntKind.u8.wrap (b : Int), IntKind.u8.wrap (c : Int), IntKind.u8.wrap (d : Int)] = bs [UInt8.ofNat a, UInt8.ofNat b, UInt8.ofNat c, UInt8.ofNat d] := by
  rw [u8_in ha, u8_in hb, u8_in hc, u8_in hd]; simp [strOf, bs]; rfl
theorem cut_list {s : ByteArray} {a b : Nat} (h1 : a ≤ b) (h2 : b ≤ s.size) : (s.extract a b).data.toList = (s.data.toList.drop a).take (b - a) := by
  rw [ByteArray.data_extract]
  simp
theorem cut_eq (s : ByteArray) (a b : Nat) (h1 : a ≤ b) (h2 : b ≤ s.size) : bs ((s.data.toList.drop a).take (b - a)) = s.extract a b := by
  rw [← cut_list h1 h2]; exact bs_of _
theorem tup_h {b : Nat} {p : Nat × Nat} {x y : Value} (h : hdU b = p) (hx : x = .int .i64 p.1) (hy : y = .int .i64 p.2) : Value.tuple #[x, y] = .tuple #[.int .i64 (hdU b).1, .int .i64 (hdU b).2] := by subst h hx hy; rfl
theorem cut_list' {s : ByteArray} {a i : Nat} {m : Int} (h1 : m = ((a + i : Nat) : Int)) (h2 : a + i ≤ s.size) : (s.extract (Int.toNat (a : Int)) m.toNat).data.toList = (s.data.toList.drop a).take i := by
  subst h1
  have := cut_list (s := s) (a := a) (b := a + i) (by omega) h2
  rw [show a + i - a = i by omega] at this
  rw [Int.toNat_natCast, Int.toNat_natCast]
  exact this
theorem congr_cut {s : ByteArray} {a i : Nat} {m : Int} (h1 : m = ((a + i : Nat) : Int)) (h2 : a + i ≤ s.size) : bs ((s.data.toList.drop a).take i) = s.extract (Int.toNat (a : Int)) m.toNat := by
  rw [← cut_list' h1 h2]; exact bs_of _
end Go.Dk
