/-
  Plain: the text of a path, and of losses.
-/
import Derived.Test.YthiafbkolhnadaaGreatDoorBc
import Derived.Lib.ItoaNum
set_option linter.unusedVariables false
namespace Go.Dk
open Go Go.RowKit Go.Lib

/-! ### slices and paths in memory -/
/-- a slice value of n elements whose first cell is at offset o of block b; nil only where it is empty -/
def SliceAt (A : Nat → Prop) (s : Value) (n b o : Nat) : Prop := (n = 0 ∧ s = .slice none 0 0) ∨ ∃ ad cap, s = .slice (some ad) n cap ∧ n ≤ cap ∧ (0 < n → ad = ⟨b, o, none⟩ ∧ A b)
theorem SliceAt.inA {A : Nat → Prop} {s : Value} {n b o : Nat} (h : SliceAt A s n b o) (hn : 0 < n) : A b := by
  rcases h with ⟨h0, _⟩ | ⟨_, _, _, _, h⟩
  · omega
  · exact (h hn).2
theorem SliceAt.mono {A A' : Nat → Prop} {s : Value} {n b o : Nat} (h : SliceAt A s n b o) (hA : ∀ b, A b → A' b) : SliceAt A' s n b o := by
  rcases h with h | ⟨ad, cap, h1, h2, h3⟩
  · exact .inl h
  · exact .inr ⟨ad, cap, h1, h2, fun hn => ⟨(h3 hn).1, hA _ (h3 hn).2⟩⟩
theorem SliceAt.form {A : Nat → Prop} {s : Value} {n b o : Nat} (h : SliceAt A s n b o) : ∃ a c, s = .slice a n c ∧ (0 < n → a = some ⟨b, o, none⟩) := by
  rcases h with ⟨rfl, rfl⟩ | ⟨ad, cap, rfl, _, h⟩
  · exact ⟨none, 0, rfl, fun h => by omega⟩
  · exact ⟨some ad, cap, rfl, fun hn => by rw [(h hn).1]⟩
theorem RowAt.up {w w' : World} {b o : Nat} {l : List Value} (h : RowAt w b o l) (hb : Below w.heap.size w w') : RowAt w' b o l := fun j x hj => by
  have h1 := h j x hj
  have h2 := block_lt_of_cell h1
  have h3 := hb.block b (by simpa using h2)
  have h4 : w'.cell? ⟨b, o + j, none⟩ = w.cell? ⟨b, o + j, none⟩ := by simp [World.cell?, h3]
  rw [h4]; exact h1
structure Stp where
  byIndex : Bool
  key : ByteArray
  index : Int
def srow (s : Stp) : List Value := [.bool s.byIndex, .string s.key, .int .i64 s.index]
/-- a path in memory -/
def Pth (w : World) (s : Value) (l : List Stp) : Prop := ∃ b o, SliceAt (fun b => b < w.heap.size) s l.length b o ∧ ∀ i x, l[i]? = some x → RowAt w b (o + i * 3) (srow x)
theorem Pth.up {w w' : World} (h : Below w.heap.size w w') {s : Value} {l : List Stp} (hp : Pth w s l) : Pth w' s l := by
  obtain ⟨b, o, hs, hr⟩ := hp
  exact ⟨b, o, hs.mono fun _ hb => Nat.lt_of_lt_of_le hb h.size, fun i x hx => (hr i x hx).up h⟩
theorem Pth.form {w : World} {s : Value} {l : List Stp} (h : Pth w s l) : ∃ a c b o, s = .slice a l.length c ∧ (0 < l.length → a = some ⟨b, o, none⟩) ∧ ∀ i x, l[i]? = some x → RowAt w b (o + i * 3) (srow x) := by
  obtain ⟨b, o, hs, hr⟩ := h
  obtain ⟨a, c, rfl, ha⟩ := hs.form
  exact ⟨a, c, b, o, rfl, ha, hr⟩
theorem Pth.sl {w : World} {s : Value} {l : List Stp} (h : Pth w s l) : ∃ a c, s = .slice a l.length c ∧ l.length ≤ c := by
  obtain ⟨b, o, hs, hr⟩ := h
  rcases hs with ⟨h0, h1⟩ | ⟨ad, cap, h1, h2, h3⟩
  · exact ⟨none, 0, by rw [h1, h0], by omega⟩
  · exact ⟨some ad, cap, h1, h2⟩
/-- the first steps of a path -/
theorem Pth.take {w : World} {a : Option Addr} {c n k : Nat} {l : List Stp} (h : Pth w (.slice a n c) l) (hk : k ≤ l.length) : Pth w (.slice a k c) (l.take k) := by
  obtain ⟨b, o, hs, hr⟩ := h
  refine ⟨b, o, ?_, fun i x hx => hr i x ?_⟩
  · have e : (l.take k).length = k := by simp; omega
    rw [e]
    rcases hs with ⟨h0, h1⟩ | ⟨ad, cap, h1, h2, h3⟩
    · cases h1
      have : k = 0 := by omega
      subst this
      exact .inl ⟨rfl, rfl⟩
    · cases h1
      exact .inr ⟨ad, c, rfl, by omega, fun hn => h3 (by omega)⟩
  · rw [List.getElem?_take] at hx
    split at hx
    · exact hx
    · cases hx
/-- a list of losses in memory -/
structure Lss where
  kind : Int
  path : List Stp
def Lsr (w : World) (s : Value) (l : List Lss) : Prop := ∃ b o, SliceAt (fun b => b < w.heap.size) s l.length b o ∧ ∀ i x, l[i]? = some x → ∃ p, RowAt w b (o + i * 2) [.int .i64 x.kind, p] ∧ Pth w p x.path
theorem Lsr.up {w w' : World} (h : Below w.heap.size w w') {s : Value} {l : List Lss} (hp : Lsr w s l) : Lsr w' s l := by
  obtain ⟨b, o, hs, hr⟩ := hp
  refine ⟨b, o, hs.mono fun _ hb => Nat.lt_of_lt_of_le hb h.size, fun i x hx => ?_⟩
  obtain ⟨p, h1, h2⟩ := hr i x hx
  exact ⟨p, h1.up h, h2.up h⟩
theorem Lsr.form {w : World} {s : Value} {l : List Lss} (h : Lsr w s l) : ∃ a c b o, s = .slice a l.length c ∧ (0 < l.length → a = some ⟨b, o, none⟩) ∧ ∀ i x, l[i]? = some x → ∃ p, RowAt w b (o + i * 2) [.int .i64 x.kind, p] ∧ Pth w p x.path := by
  obtain ⟨b, o, hs, hr⟩ := h
  obtain ⟨a, c, rfl, ha⟩ := hs.form
  exact ⟨a, c, b, o, rfl, ha, hr⟩

/-! ### texts -/
def hexd (n : Nat) : UInt8 := if n < 10 then UInt8.ofNat (48 + n) else UInt8.ofNat (87 + n)
/-- the number of a byte in hexadecimal -/
def hexs (n : Nat) : List UInt8 := if n < 16 then [hexd n] else [hexd (n / 16), hexd (n % 16)]
/-- how a byte is written in quotation marks -/
def sgn (b : UInt8) : List UInt8 :=
  if b = 34 ∨ b = 92 then [92, b] else if b = 10 then [92, 110] else if b = 9 then [92, 116] else if b = 13 then [92, 114]
  else if b < 32 ∨ b = 127 then [92, 117, 123] ++ hexs b.toNat ++ [125] else [b]
theorem sgn_len (b : UInt8) : (sgn b).length ≤ 6 := by
  unfold sgn hexs
  split
  · simp
  · split
    · simp
    · split
      · simp
      · split
        · simp
        · split
          · split <;> simp
          · simp
theorem u8eq (c : UInt8) (n : Nat) (h : n < 256) : c = UInt8.ofNat n ↔ c.toNat = n := by
  constructor
  · rintro rfl; exact u8t h
  · rintro rfl; exact UInt8.ofNat_toNat.symm
theorem sgn_a {c : UInt8} (h : c.toNat = 34 ∨ c.toNat = 92) : sgn c = [92, c] := by
  have : c = 34 ∨ c = 92 := h.imp (u8eq c 34 (by decide)).2 (u8eq c 92 (by decide)).2
  unfold sgn; rw [if_pos this]
theorem sgn_ne {c : UInt8} {n : Nat} (hn : n < 256) (h : c.toNat ≠ n) : c ≠ UInt8.ofNat n := fun e => h ((u8eq c n hn).1 e)
theorem sgn_10 {c : UInt8} (h : c.toNat = 10) : sgn c = [92, 110] := by
  have : c = 10 := (u8eq c 10 (by decide)).2 h
  subst this; decide
theorem sgn_9 {c : UInt8} (h : c.toNat = 9) : sgn c = [92, 116] := by
  have : c = 9 := (u8eq c 9 (by decide)).2 h
  subst this; decide
theorem sgn_13 {c : UInt8} (h : c.toNat = 13) : sgn c = [92, 114] := by
  have : c = 13 := (u8eq c 13 (by decide)).2 h
  subst this; decide
theorem sgn_u {c : UInt8} (h1 : c.toNat ≠ 10) (h2 : c.toNat ≠ 9) (h3 : c.toNat ≠ 13) (h : c.toNat < 32 ∨ c.toNat = 127) : sgn c = [92, 117, 123] ++ hexs c.toNat ++ [125] := by
  have e1 : ¬ (c = 34 ∨ c = 92) := by rintro (e | e) <;> (subst e; revert h; decide)
  have e5 : c < 32 ∨ c = 127 := by
    rcases h with h | h
    · exact .inl (by rw [UInt8.lt_iff_toNat_lt]; exact h)
    · exact .inr ((u8eq c 127 (by decide)).2 h)
  unfold sgn
  rw [if_neg e1, if_neg (show c ≠ 10 from sgn_ne (n := 10) (by decide) h1), if_neg (show c ≠ 9 from sgn_ne (n := 9) (by decide) h2), if_neg (show c ≠ 13 from sgn_ne (n := 13) (by decide) h3), if_pos e5]
theorem sgn_o {c : UInt8} (h0 : ¬ (c.toNat = 34 ∨ c.toNat = 92)) (h : ¬ (c.toNat < 32 ∨ c.toNat = 127)) : sgn c = [c] := by
  have e1 : ¬ (c = 34 ∨ c = 92) := fun e => h0 (e.imp (u8eq c 34 (by decide)).1 (u8eq c 92 (by decide)).1)
  have e5 : ¬ (c < 32 ∨ c = 127) := fun e => h (e.imp (fun e => by rw [UInt8.lt_iff_toNat_lt] at e; exact e) (u8eq c 127 (by decide)).1)
  have n1 : c.toNat ≠ 10 := by omega
  have n2 : c.toNat ≠ 9 := by omega
  have n3 : c.toNat ≠ 13 := by omega
  unfold sgn
  rw [if_neg e1, if_neg (show c ≠ 10 from sgn_ne (n := 10) (by decide) n1), if_neg (show c ≠ 9 from sgn_ne (n := 9) (by decide) n2), if_neg (show c ≠ 13 from sgn_ne (n := 13) (by decide) n3), if_neg e5]
theorem hexs_len (n : Nat) : (hexs n).length ≤ 2 := by unfold hexs; split <;> simp
def lowc (c : Int) : Prop := (97 ≤ c ∧ c ≤ 122) ∨ (65 ≤ c ∧ c ≤ 90) ∨ c = 95
def digc (c : Int) : Prop := 48 ≤ c ∧ c ≤ 57
/-- is it a name? -/
def isNm (s : ByteArray) : Prop := 0 < s.size ∧ ∀ j : Nat, j < s.size → lowc (byteAt s j) ∨ (0 < j ∧ digc (byteAt s j))
theorem isNm_iff (s : ByteArray) : isNm s ↔ (∀ j : Nat, j < s.size → lowc (byteAt s j) ∨ digc (byteAt s j)) ∧ 0 < s.size ∧ ¬ digc (byteAt s (0 : Nat)) := by
  constructor
  · rintro ⟨h0, h⟩
    refine ⟨fun j hj => (h j hj).imp id (·.2), h0, fun hd => ?_⟩
    rcases h 0 h0 with h1 | h1
    · unfold lowc at h1; unfold digc at hd; omega
    · omega
  · rintro ⟨h, h0, hn⟩
    refine ⟨h0, fun j hj => ?_⟩
    rcases h j hj with h1 | h1
    · exact .inl h1
    · rcases Nat.eq_zero_or_pos j with h2 | h2
      · subst h2; exact absurd h1 hn
      · exact .inr ⟨h2, h1⟩
/-- the text within quotation marks -/
def qtd (l : List UInt8) : List UInt8 := l.flatMap sgn
theorem qtd_len (l : List UInt8) : (qtd l).length ≤ 6 * l.length := by
  induction l with
  | nil => simp [qtd]
  | cons b l ih =>
    have := sgn_len b
    simp only [qtd, List.flatMap_cons, List.length_append, List.length_cons] at ih ⊢
    omega
theorem qtd_take (s : ByteArray) (i : Nat) (hi : i < s.size) : qtd (s.data.toList.take (i + 1)) = qtd (s.data.toList.take i) ++ sgn (s.data.toList.getD i 0) := by
  have hi' : i < s.data.toList.length := by simpa using hi
  rw [List.take_succ_eq_append_getElem hi']
  simp [qtd, List.getD, List.getElem?_eq_getElem hi']
open Classical in
/-- the text of a step -/
noncomputable def stpT (s : Stp) : List UInt8 := if s.byIndex then [91] ++ itoa s.index ++ [93] else if isNm s.key then 46 :: s.key.data.toList else [46, 34] ++ qtd s.key.data.toList ++ [34]
noncomputable def pathT (l : List Stp) : List UInt8 := match l with
  | [] => [46]
  | s :: _ => (if s.byIndex then [46] else []) ++ l.flatMap stpT
def GdS (s : Stp) : Prop := (s.byIndex = true → 0 ≤ s.index ∧ s.index ≤ 65536) ∧ (s.byIndex = false → s.key.size ≤ 1024)
theorem decDigits_len : ∀ (k n : Nat), n < 10 ^ (k + 1) → (decDigits n).length ≤ k + 1
  | 0, n, h => by unfold decDigits; rw [dif_pos (by omega)]; simp
  | k + 1, n, h => by
    unfold decDigits
    split
    · simp
    · have := decDigits_len k (n / 10) (by rw [Nat.pow_succ] at h; omega)
      simp only [List.length_append, List.length_singleton]
      omega
theorem itoa_nat (n : Nat) : itoa (n : Int) = decDigits n := by
  unfold itoa
  rw [if_neg (by omega)]
  simp
theorem stepT_len {s : Stp} (h : GdS s) : (stpT s).length ≤ 6200 := by
  unfold stpT
  split
  · rename_i hi
    obtain ⟨h1, h2⟩ := h.1 hi
    have h3 : s.index = ((s.index.toNat : Nat) : Int) := by omega
    rw [h3, itoa_nat]
    have := decDigits_len 5 s.index.toNat (by omega)
    simp only [List.length_append, List.length_singleton]
    omega
  · rename_i hi
    have h1 := h.2 (by simpa using hi)
    split
    · simp only [List.length_cons, Array.length_toList]
      have : s.key.data.size = s.key.size := rfl
      omega
    · have h2 := qtd_len s.key.data.toList
      have : s.key.data.size = s.key.size := rfl
      simp only [List.length_append, List.length_cons, List.length_nil, Array.length_toList] at h2 ⊢
      omega
theorem flat_len {l : List Stp} (h : ∀ s ∈ l, GdS s) : (l.flatMap stpT).length ≤ 6200 * l.length := by
  induction l with
  | nil => simp
  | cons s l ih =>
    have h1 := stepT_len (h s (by simp))
    have h2 := ih fun x hx => h x (by simp [hx])
    simp only [List.flatMap_cons, List.length_append, List.length_cons]
    omega
theorem pathT_len {l : List Stp} (h : ∀ s ∈ l, GdS s) : (pathT l).length ≤ 6200 * l.length + 1 := by
  unfold pathT
  split
  · simp
  · rename_i s t
    have := flat_len h
    simp only [List.length_append]
    split <;> simp only [List.length_cons, List.length_nil] at this ⊢ <;> omega
theorem flat_take (l : List Stp) (i : Nat) (x : Stp) (hx : l[i]? = some x) : (l.take (i + 1)).flatMap stpT = (l.take i).flatMap stpT ++ stpT x := by
  obtain ⟨hi, e⟩ := List.getElem?_eq_some_iff.1 hx
  rw [List.take_succ_eq_append_getElem hi]
  simp [e]
/-- the words for the kinds of losses -/
def wrds : List (List UInt8) := [[63], [99, 111, 109, 109, 101, 110, 116], [116, 105, 109, 101], [98, 121, 116, 101, 115], [110, 117, 108, 108], [110, 101, 115, 116], [115, 104, 97, 112, 101], [110, 117, 109, 98, 101, 114], [97, 108, 105, 97, 115]]
def knd (k : Int) : Nat := if k < 0 ∨ 8 < k then 0 else k.toNat
theorem knd_lt (k : Int) : knd k < 9 := by unfold knd; split <;> omega
theorem wrds_len : ∀ i : Nat, i < 9 → (wrds.getD i []).length ≤ 7 := by decide
noncomputable def lossT (x : Lss) : List UInt8 := pathT x.path ++ [32] ++ wrds.getD (knd x.kind) [] ++ [10]
noncomputable def repT (l : List Lss) : List UInt8 := l.flatMap lossT
def GdL (x : Lss) : Prop := x.path.length ≤ 48 ∧ ∀ s ∈ x.path, GdS s
theorem lossT_len {x : Lss} (h : GdL x) : (lossT x).length ≤ 300000 := by
  have h1 := pathT_len h.2
  have h2 := wrds_len _ (knd_lt x.kind)
  have h3 := h.1
  unfold lossT
  simp only [List.length_append, List.length_singleton]
  omega
theorem rep_len {l : List Lss} (h : ∀ x ∈ l, GdL x) : (repT l).length ≤ 300000 * l.length := by
  induction l with
  | nil => simp [repT]
  | cons s l ih =>
    have h1 := lossT_len (h s (by simp))
    have h2 := ih fun x hx => h x (by simp [hx])
    simp only [repT, List.flatMap_cons, List.length_append, List.length_cons] at h2 ⊢
    omega
theorem rep_take (l : List Lss) (i : Nat) (x : Lss) (hx : l[i]? = some x) : repT (l.take (i + 1)) = repT (l.take i) ++ lossT x := by
  obtain ⟨hi, e⟩ := List.getElem?_eq_some_iff.1 hx
  rw [List.take_succ_eq_append_getElem hi]
  simp [repT, e]
/-- the digits of a number, none for 0 -/
def dgs (n : Nat) : List UInt8 := if n = 0 then [] else decDigits n
theorem dgs_pos (n : Nat) (h : 0 < n) : dgs n = dgs (n / 10) ++ [UInt8.ofNat (48 + n % 10)] := by
  unfold dgs
  rw [if_neg (by omega)]
  by_cases h1 : n < 10
  · have e : n / 10 = 0 := by omega
    rw [e, if_pos rfl]
    unfold decDigits
    rw [dif_pos h1, show n % 10 = n by omega]
    rfl
  · rw [if_neg (by omega)]
    conv => lhs; unfold decDigits
    rw [dif_neg h1]
end Go.Dk
