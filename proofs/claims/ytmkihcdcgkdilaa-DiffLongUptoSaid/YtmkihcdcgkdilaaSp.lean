/-
  The order of strings: byte by byte.
-/
import Derived.Test.YtmkihcdcgkdilaaSo
import GoSem.Extern.BytealgCompare
set_option linter.unusedVariables false
namespace Go.Dk
open Go

/-- lists of bytes, compared -/
def cmpL : List UInt8 → List UInt8 → Int
  | [], [] => 0
  | [], _ :: _ => -1
  | _ :: _, [] => 1
  | x :: a, y :: b => if x = y then cmpL a b else if x < y then -1 else 1
theorem cmpL_refl : ∀ a, cmpL a a = 0
  | [] => rfl
  | x :: a => by simp [cmpL, cmpL_refl a]
theorem cmpL_swap : ∀ a b, cmpL a b = - cmpL b a
  | [], [] => rfl
  | [], _ :: _ => rfl
  | _ :: _, [] => rfl
  | x :: a, y :: b => by
    unfold cmpL
    by_cases h : x = y
    · subst h; simpa using cmpL_swap a b
    · rw [if_neg h, if_neg (Ne.symm h)]
      by_cases h1 : x < y
      · have h2 : ¬ y < x := fun h3 => by simp [UInt8.lt_iff_toNat_lt] at h1 h3; omega
        rw [if_pos h1, if_neg h2]
      · have h2 : y < x := by
          rcases Nat.lt_trichotomy x.toNat y.toNat with h3 | h3 | h3
          · exact absurd (UInt8.lt_iff_toNat_lt.2 h3) h1
          · exact absurd (UInt8.toNat_inj.1 h3) h
          · exact UInt8.lt_iff_toNat_lt.2 h3
        rw [if_neg h1, if_pos h2]; rfl
theorem cmpL_zero : ∀ a b, cmpL a b = 0 → a = b
  | [], [], _ => rfl
  | [], _ :: _, h => by simp [cmpL] at h
  | _ :: _, [], h => by simp [cmpL] at h
  | x :: a, y :: b, h => by
    unfold cmpL at h
    by_cases hx : x = y
    · rw [if_pos hx] at h; rw [hx, cmpL_zero a b h]
    · rw [if_neg hx] at h; split at h <;> simp at h
theorem cmpL_vals : ∀ a b, cmpL a b = -1 ∨ cmpL a b = 0 ∨ cmpL a b = 1
  | [], [] => .inr (.inl rfl)
  | [], _ :: _ => .inl rfl
  | _ :: _, [] => .inr (.inr rfl)
  | x :: a, y :: b => by
    unfold cmpL
    split
    · exact cmpL_vals a b
    · split <;> simp
theorem cmpL_trans : ∀ a b c, cmpL a b < 0 → cmpL b c < 0 → cmpL a c < 0
  | [], [], _, h, _ => by simp [cmpL] at h
  | [], _ :: _, [], _, h => by simp [cmpL] at h
  | [], _ :: _, _ :: _, _, _ => by simp [cmpL]
  | _ :: _, [], _, h, _ => by simp [cmpL] at h
  | _ :: _, _ :: _, [], _, h => by simp [cmpL] at h
  | x :: a, y :: b, z :: c, h1, h2 => by
    unfold cmpL at h1 h2 ⊢
    by_cases hxy : x = y
    · subst hxy
      rw [if_pos rfl] at h1
      by_cases hxz : x = z
      · rw [if_pos hxz] at h2 ⊢; exact cmpL_trans a b c h1 h2
      · rw [if_neg hxz] at h2 ⊢; exact h2
    · rw [if_neg hxy] at h1
      have l1 : x < y := by
        by_cases h : x < y
        · exact h
        · rw [if_neg h] at h1; simp at h1
      by_cases hyz : y = z
      · subst hyz; rw [if_neg hxy, if_pos l1]; decide
      · rw [if_neg hyz] at h2
        have l2 : y < z := by
          by_cases h : y < z
          · exact h
          · rw [if_neg h] at h2; simp at h2
        have l3 : x < z := UInt8.lt_iff_toNat_lt.2 (Nat.lt_trans (UInt8.lt_iff_toNat_lt.1 l1) (UInt8.lt_iff_toNat_lt.1 l2))
        have n3 : x ≠ z := fun e => by subst e; exact absurd (UInt8.lt_iff_toNat_lt.1 l3) (Nat.lt_irrefl _)
        rw [if_neg n3, if_pos l3]; decide
theorem cmpL_drop : ∀ (n : Nat) (a b : List UInt8), n ≤ a.length → n ≤ b.length → (∀ i, i < n → a[i]? = b[i]?) → cmpL a b = cmpL (a.drop n) (b.drop n)
  | 0, a, b, _, _, _ => rfl
  | n + 1, [], _, h, _, _ => by simp at h
  | n + 1, _ :: _, [], _, h, _ => by simp at h
  | n + 1, x :: a, y :: b, ha, hb, h => by
    have h0 := h 0 (by omega)
    simp at h0
    subst h0
    have e : cmpL (x :: a) (x :: b) = cmpL a b := by simp [cmpL]
    rw [e, List.drop_succ_cons, List.drop_succ_cons]
    exact cmpL_drop n a b (by simpa using ha) (by simpa using hb) fun i hi => by simpa using h (i + 1) (by omega)
/-- the library's compare -/
theorem cmp_eq (a b : ByteArray) : Extern.BytealgCompare.cmp a b = cmpL a.data.toList b.data.toList := by
  have ga : ∀ i, i < a.size → a.data.toList[i]? = some a[i]! := fun i hi => by
    have : i < a.data.toList.length := by simpa using hi
    rw [List.getElem?_eq_getElem this]
    simp [getElem!_pos a i hi]
    rfl
  have gb : ∀ i, i < b.size → b.data.toList[i]? = some b[i]! := fun i hi => by
    have : i < b.data.toList.length := by simpa using hi
    rw [List.getElem?_eq_getElem this]
    simp [getElem!_pos b i hi]
    rfl
  have la : a.data.toList.length = a.size := by simp
  have lb : b.data.toList.length = b.size := by simp
  unfold Extern.BytealgCompare.cmp
  cases hf : (List.range (min a.size b.size)).find? fun i => a[i]! != b[i]! with
  | none =>
    have hall : ∀ i, i < min a.size b.size → a[i]! = b[i]! := fun i hi => by
      have := List.find?_eq_none.1 hf i (List.mem_range.2 hi)
      simpa using this
    rw [cmpL_drop (min a.size b.size) _ _ (by omega) (by omega) fun i hi => by rw [ga i (by omega), gb i (by omega), hall i hi]]
    simp only
    by_cases h1 : a.size < b.size
    · rw [if_pos h1, Nat.min_eq_left (by omega), List.drop_eq_nil_of_le (by omega), List.drop_eq_getElem_cons (by omega)]
      rfl
    · rw [if_neg h1]
      by_cases h2 : a.size > b.size
      · rw [if_pos h2, Nat.min_eq_right (by omega), show b.data.toList.drop b.size = [] from List.drop_eq_nil_of_le (by omega), List.drop_eq_getElem_cons (by omega)]
        rfl
      · rw [if_neg h2, List.drop_eq_nil_of_le (by omega), List.drop_eq_nil_of_le (by omega)]
        rfl
  | some i =>
    have hi : i < min a.size b.size := List.mem_range.1 (List.mem_of_find?_eq_some hf)
    have hne : a[i]! ≠ b[i]! := by have := List.find?_some hf; simpa using this
    have hbef : ∀ j, j < i → a[j]! = b[j]! := fun j hj => by
      obtain ⟨_, as1, as2, he, hall⟩ := List.find?_eq_some_iff_append.1 hf
      have hl : as1 = List.range i := by
        have h1 : (List.range (min a.size b.size)).take as1.length = as1 := by rw [he]; simp
        have h2 : (List.range (min a.size b.size))[as1.length]? = some i := by rw [he]; simp
        have h3 := List.getElem?_eq_some_iff.1 h2
        obtain ⟨h4, h5⟩ := h3
        simp at h5
        rw [h5] at h1
        rw [← h1, List.take_range]
        congr 1
        omega
      have := hall j (by rw [hl]; exact List.mem_range.2 hj)
      simpa using this
    rw [cmpL_drop i _ _ (by omega) (by omega) fun j hj => by rw [ga j (by omega), gb j (by omega), hbef j hj]]
    rw [List.drop_eq_getElem_cons (show i < a.data.toList.length by omega), List.drop_eq_getElem_cons (show i < b.data.toList.length by omega)]
    have ea : a.data.toList[i]'(by omega) = a[i]! := by have := ga i (by omega); rw [List.getElem?_eq_getElem (by omega)] at this; exact Option.some.inj this
    have eb : b.data.toList[i]'(by omega) = b[i]! := by have := gb i (by omega); rw [List.getElem?_eq_getElem (by omega)] at this; exact Option.some.inj this
    unfold cmpL
    rw [ea, eb, if_neg hne]
end Go.Dk
