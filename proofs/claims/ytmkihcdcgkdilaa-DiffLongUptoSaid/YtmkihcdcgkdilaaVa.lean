/-
  Values of the data model as Lean data, and what it means that cells of memory hold one.
-/
import Derived.Test.YtmkihcdcgkdilaaBa
namespace Go.Dk
open Go Go.RowKit

/-- what a value holds beside bytes, elements and fields -/
structure Sc where
  kind : Int
  b : Bool
  neg : Bool
  dig : ByteArray
  exp : Int
  tk : Int
  td : Int
  tn : Int
  tz : Int
  text : ByteArray

inductive V where
  | mk (s : Sc) (bytes : List UInt8) (list : List V) (fields : List (ByteArray × V))

def V.sc : V → Sc | .mk s _ _ _ => s
def V.bytes : V → List UInt8 | .mk _ b _ _ => b
def V.list : V → List V | .mk _ _ l _ => l
def V.fields : V → List (ByteArray × V) | .mk _ _ _ f => f

theorem V.ind {p : V → Prop} (h : ∀ s b l f, (∀ v ∈ l, p v) → (∀ kv ∈ f, p kv.2) → p (.mk s b l f)) : ∀ v, p v := by
  intro v
  exact V.rec (motive_1 := p) (motive_2 := fun l => ∀ v ∈ l, p v) (motive_3 := fun f => ∀ kv ∈ f, p kv.2) (motive_4 := fun kv => p kv.2)
    (fun s b l f hl hf => h s b l f hl hf) (fun v hv => by cases hv) (fun v l hv hl u hu => by
      rcases List.mem_cons.1 hu with rfl | hu
      · exact hv
      · exact hl u hu) (fun v hv => by cases hv) (fun kv l hkv hl u hu => by
      rcases List.mem_cons.1 hu with rfl | hu
      · exact hkv
      · exact hl u hu) (fun k v hv => hv) v

def vrow (s : Sc) (bs ls fs : Value) : List Value :=
  [.int .i64 s.kind, .bool s.b, .bool s.neg, .string s.dig, .int .i64 s.exp, .int .i64 s.tk, .int .i64 s.td, .int .i64 s.tn, .int .i64 s.tz, .string s.text, bs, ls, fs]

/-- a slice value of n elements whose first cell is at offset o of block b; nil only where it is empty -/
def SliceAt (A : Nat → Prop) (s : Value) (n b o : Nat) : Prop := (n = 0 ∧ s = .slice none 0 0) ∨ ∃ ad cap, s = .slice (some ad) n cap ∧ n ≤ cap ∧ (0 < n → ad = ⟨b, o, none⟩ ∧ A b)
theorem SliceAt.inA {A : Nat → Prop} {s : Value} {n b o : Nat} (h : SliceAt A s n b o) (hn : 0 < n) : A b := by
  rcases h with ⟨h0, _⟩ | ⟨_, _, _, _, h⟩
  · omega
  · exact (h hn).2

def byteVal (x : UInt8) : Value := .int .u8 x.toNat
def RepB (A : Nat → Prop) (w : World) (s : Value) (l : List UInt8) : Prop := ∃ b o, SliceAt A s l.length b o ∧ RowAt w b o (l.map byteVal)

mutual
/-- the cells of l, in world w, hold the value; all memory behind them lies in blocks of A -/
def RepV (A : Nat → Prop) (w : World) : V → List Value → Prop
  | .mk s bytes list fields, l => ∃ bs ls fs, l = vrow s bs ls fs ∧ RepB A w bs bytes ∧ (∃ b o, SliceAt A ls list.length b o ∧ RepLs A w b o list) ∧ (∃ b o, SliceAt A fs fields.length b o ∧ RepFs A w b o fields)
def RepLs (A : Nat → Prop) (w : World) (b : Nat) (o : Nat) : List V → Prop
  | [] => True
  | v :: vs => (∃ l, RowAt w b o l ∧ RepV A w v l) ∧ RepLs A w b (o + 13) vs
def RepFs (A : Nat → Prop) (w : World) (b : Nat) (o : Nat) : List (ByteArray × V) → Prop
  | [] => True
  | kv :: fs => RepP A w b o kv ∧ RepFs A w b (o + 14) fs
def RepP (A : Nat → Prop) (w : World) (b : Nat) (o : Nat) : ByteArray × V → Prop
  | (k, v) => ∃ l, RowAt w b o (.string k :: l) ∧ RepV A w v l
end

def RepL (A : Nat → Prop) (w : World) (s : Value) (l : List V) : Prop := ∃ b o, SliceAt A s l.length b o ∧ RepLs A w b o l
def RepF (A : Nat → Prop) (w : World) (s : Value) (l : List (ByteArray × V)) : Prop := ∃ b o, SliceAt A s l.length b o ∧ RepFs A w b o l

theorem RepV.open {A : Nat → Prop} {w : World} {v : V} {l : List Value} (h : RepV A w v l) : ∃ bs ls fs, l = vrow v.sc bs ls fs ∧ RepB A w bs v.bytes ∧ RepL A w ls v.list ∧ RepF A w fs v.fields := by
  cases v
  simpa [RepV, RepL, RepF, V.sc, V.bytes, V.list, V.fields] using h
theorem RepV.mk {A : Nat → Prop} {w : World} {v : V} {bs ls fs : Value} (h1 : RepB A w bs v.bytes) (h2 : RepL A w ls v.list) (h3 : RepF A w fs v.fields) : RepV A w v (vrow v.sc bs ls fs) := by
  cases v
  simp only [RepV]
  exact ⟨bs, ls, fs, rfl, h1, h2, h3⟩

/-- the blocks of A are as they were -/
def Keeps (A : Nat → Prop) (w w' : World) : Prop := ∀ b, A b → w'.heap[b]? = w.heap[b]?
theorem RowAt.keep {w w' : World} {b o : Nat} {l : List Value} (h : RowAt w b o l) (hb : w'.heap[b]? = w.heap[b]?) : RowAt w' b o l := fun j x hj => by
  rw [World.cell?_of_block (w := w) (a := ⟨b, o + j, none⟩) hb]; exact h j x hj
theorem SliceAt.mono {A A' : Nat → Prop} {s : Value} {n b o : Nat} (h : SliceAt A s n b o) (hA : ∀ b, A b → A' b) : SliceAt A' s n b o := by
  rcases h with h | ⟨ad, cap, h1, h2, h3⟩
  · exact .inl h
  · exact .inr ⟨ad, cap, h1, h2, fun hn => ⟨(h3 hn).1, hA _ (h3 hn).2⟩⟩
/-- an empty slice's block may be any -/
theorem RepB.mono {A A' : Nat → Prop} {w w' : World} {s : Value} {l : List UInt8} (hA : ∀ b, A b → A' b) (hk : Keeps A w w') (h : RepB A w s l) : RepB A' w' s l := by
  obtain ⟨b, o, hs, hr⟩ := h
  refine ⟨b, o, hs.mono hA, ?_⟩
  rcases Nat.eq_zero_or_pos l.length with h0 | h0
  · have : l = [] := List.eq_nil_of_length_eq_zero h0
    subst this
    intro j x hj; simp at hj
  · exact hr.keep (hk b (hs.inA h0))

theorem RepLs.mono' {A A' : Nat → Prop} {w w' : World} {b : Nat} (hk : w'.heap[b]? = w.heap[b]?) (l : List V) (ih : ∀ v ∈ l, ∀ r, RepV A w v r → RepV A' w' v r) : ∀ o, RepLs A w b o l → RepLs A' w' b o l := by
  induction l with
  | nil => intro o _; simp [RepLs]
  | cons v vs ihl =>
    intro o h
    simp only [RepLs] at h ⊢
    obtain ⟨⟨r, hr, hv⟩, hs⟩ := h
    exact ⟨⟨r, hr.keep hk, ih v (by simp) r hv⟩, ihl (fun v hv => ih v (by simp [hv])) _ hs⟩
theorem RepFs.mono' {A A' : Nat → Prop} {w w' : World} {b : Nat} (hk : w'.heap[b]? = w.heap[b]?) (l : List (ByteArray × V)) (ih : ∀ kv ∈ l, ∀ r, RepV A w kv.2 r → RepV A' w' kv.2 r) : ∀ o, RepFs A w b o l → RepFs A' w' b o l := by
  induction l with
  | nil => intro o _; simp [RepFs]
  | cons kv vs ihl =>
    intro o h
    obtain ⟨k, v⟩ := kv
    simp only [RepFs, RepP] at h ⊢
    obtain ⟨⟨r, hr, hv⟩, hs⟩ := h
    exact ⟨⟨r, hr.keep hk, ih (k, v) (by simp) r hv⟩, ihl (fun v hv => ih v (by simp [hv])) _ hs⟩

theorem RepV.mono {A A' : Nat → Prop} {w w' : World} (hA : ∀ b, A b → A' b) (hk : Keeps A w w') : ∀ (v : V) (l : List Value), RepV A w v l → RepV A' w' v l := by
  intro v
  induction v using V.ind with
  | h s b l f ihl ihf =>
    intro row h
    simp only [RepV] at h ⊢
    obtain ⟨bs, ls, fs, e, h1, ⟨b2, o2, s2, r2⟩, ⟨b3, o3, s3, r3⟩⟩ := h
    refine ⟨bs, ls, fs, e, h1.mono hA hk, ⟨b2, o2, s2.mono hA, ?_⟩, ⟨b3, o3, s3.mono hA, ?_⟩⟩
    · rcases Nat.eq_zero_or_pos l.length with h0 | h0
      · have : l = [] := List.eq_nil_of_length_eq_zero h0
        subst this; simp [RepLs]
      · exact RepLs.mono' (hk _ (s2.inA h0)) l (fun v hv r => ihl v hv r) _ r2
    · rcases Nat.eq_zero_or_pos f.length with h0 | h0
      · have : f = [] := List.eq_nil_of_length_eq_zero h0
        subst this; simp [RepFs]
      · exact RepFs.mono' (hk _ (s3.inA h0)) f (fun v hv r => ihf v hv r) _ r3
theorem RepL.mono {A A' : Nat → Prop} {w w' : World} (hA : ∀ b, A b → A' b) (hk : Keeps A w w') {s : Value} {l : List V} (h : RepL A w s l) : RepL A' w' s l := by
  obtain ⟨b, o, hs, hr⟩ := h
  refine ⟨b, o, hs.mono hA, ?_⟩
  rcases Nat.eq_zero_or_pos l.length with h0 | h0
  · have : l = [] := List.eq_nil_of_length_eq_zero h0
    subst this; simp [RepLs]
  · exact RepLs.mono' (hk _ (hs.inA h0)) l (fun v _ r => RepV.mono hA hk v r) _ hr
theorem RepF.mono {A A' : Nat → Prop} {w w' : World} (hA : ∀ b, A b → A' b) (hk : Keeps A w w') {s : Value} {l : List (ByteArray × V)} (h : RepF A w s l) : RepF A' w' s l := by
  obtain ⟨b, o, hs, hr⟩ := h
  refine ⟨b, o, hs.mono hA, ?_⟩
  rcases Nat.eq_zero_or_pos l.length with h0 | h0
  · have : l = [] := List.eq_nil_of_length_eq_zero h0
    subst this; simp [RepFs]
  · exact RepFs.mono' (hk _ (hs.inA h0)) l (fun v _ r => RepV.mono hA hk v.2 r) _ hr

/-- an element -/
theorem RepLs.get {A : Nat → Prop} {w : World} {b : Nat} : ∀ (l : List V) (o i : Nat) (v : V), RepLs A w b o l → l[i]? = some v → ∃ r, RowAt w b (o + i * 13) r ∧ RepV A w v r
  | [], _, _, _, _, h => by simp at h
  | x :: l, o, 0, v, hr, h => by
    simp at h; subst h
    simp only [RepLs] at hr
    simpa using hr.1
  | x :: l, o, i + 1, v, hr, h => by
    simp only [RepLs] at hr
    obtain ⟨r, h1, h2⟩ := RepLs.get l (o + 13) i v hr.2 (by simpa using h)
    exact ⟨r, by rw [show o + (i + 1) * 13 = o + 13 + i * 13 by omega]; exact h1, h2⟩
theorem RepFs.get {A : Nat → Prop} {w : World} {b : Nat} : ∀ (l : List (ByteArray × V)) (o i : Nat) (kv : ByteArray × V), RepFs A w b o l → l[i]? = some kv → ∃ r, RowAt w b (o + i * 14) (.string kv.1 :: r) ∧ RepV A w kv.2 r
  | [], _, _, _, _, h => by simp at h
  | (k, x) :: l, o, 0, v, hr, h => by
    simp at h; subst h
    simp only [RepFs, RepP] at hr
    simpa using hr.1
  | x :: l, o, i + 1, v, hr, h => by
    simp only [RepFs] at hr
    obtain ⟨r, h1, h2⟩ := RepFs.get l (o + 14) i v hr.2 (by simpa using h)
    exact ⟨r, by rw [show o + (i + 1) * 14 = o + 14 + i * 14 by omega]; exact h1, h2⟩
theorem RowAt.lt {w : World} {b o : Nat} {l : List Value} (h : RowAt w b o l) (hl : l ≠ []) : b < w.heap.size := by
  cases l with
  | nil => exact absurd rfl hl
  | cons x l => exact block_lt_of_cell (h 0 x rfl)
theorem RowAt.tail {w : World} {b o : Nat} {x : Value} {l : List Value} (h : RowAt w b o (x :: l)) : RowAt w b (o + 1) l := fun j y hj => by
  rw [show o + 1 + j = o + (j + 1) by omega]; exact h (j + 1) y (by simpa using hj)
end Go.Dk
