/-
  Changes as data, and lists of changes in memory.
-/
import Derived.Test.YtmkihcdcgkdilaaVb
import Derived.Test.YtmkihcdcgkdilaaVc
namespace Go.Dk
open Go Go.RowKit

structure Stp where
  byIndex : Bool
  key : ByteArray
  index : Int
def srow (s : Stp) : List Value := [.bool s.byIndex, .string s.key, .int .i64 s.index]
/-- a path in memory -/
def Pth (w : World) (s : Value) (l : List Stp) : Prop := ∃ b o, SliceAt (fun b => b < w.heap.size) s l.length b o ∧ ∀ i x, l[i]? = some x → RowAt w b (o + i * 3) (srow x)
theorem Pth.up {w w' : World} (h : Below w.heap.size w w') {s : Value} {l : List Stp} (hp : Pth w s l) : Pth w' s l := by
  obtain ⟨b, o, hs, hr⟩ := hp
  exact ⟨b, o, hs.mono fun _ hb => Nat.lt_of_lt_of_le hb h.size, fun i x hx => (hr i x hx).up h⟩
theorem Pth.form {w : World} {s : Value} {l : List Stp} (h : Pth w s l) : ∃ a c b o, s = .slice a l.length c ∧ (0 < l.length → a = some ⟨b, o, none⟩) ∧ ∀ i x, l[i]? = some x → RowAt w b (o + i * 3) (srow x) := by
  obtain ⟨b, o, hs, hr⟩ := h
  obtain ⟨a, c, rfl, ha⟩ := hs.form
  exact ⟨a, c, b, o, rfl, ha, hr⟩

structure Ch where
  op : Int
  path : List Stp
  pos : Int
  old : V
  new : V
/-- the cells of a change -/
def Chg (w : World) (c : Ch) (l : List Value) : Prop := ∃ ps o n, l = .int .i64 c.op :: ps :: .int .i64 c.pos :: (o ++ n) ∧ Pth w ps c.path ∧ Val w c.old o ∧ Val w c.new n
theorem Chg.up {w w' : World} (h : Below w.heap.size w w') {c : Ch} {l : List Value} (hc : Chg w c l) : Chg w' c l := by
  obtain ⟨ps, o, n, e, h1, h2, h3⟩ := hc
  exact ⟨ps, o, n, e, h1.up h, h2.up h, h3.up h⟩
def Chs (w : World) (s : Value) (l : List Ch) : Prop := ∃ b o, SliceAt (fun b => b < w.heap.size) s l.length b o ∧ ∀ i c, l[i]? = some c → ∃ r, RowAt w b (o + i * 29) r ∧ Chg w c r
theorem Chs.up {w w' : World} (h : Below w.heap.size w w') {s : Value} {l : List Ch} (hp : Chs w s l) : Chs w' s l := by
  obtain ⟨b, o, hs, hr⟩ := hp
  refine ⟨b, o, hs.mono fun _ hb => Nat.lt_of_lt_of_le hb h.size, fun i x hx => ?_⟩
  obtain ⟨r, h1, h2⟩ := hr i x hx
  exact ⟨r, h1.up h, h2.up h⟩
theorem Chs.form {w : World} {s : Value} {l : List Ch} (h : Chs w s l) : ∃ a c b o, s = .slice a l.length c ∧ (0 < l.length → a = some ⟨b, o, none⟩) ∧ ∀ i x, l[i]? = some x → ∃ r, RowAt w b (o + i * 29) r ∧ Chg w x r := by
  obtain ⟨b, o, hs, hr⟩ := h
  obtain ⟨a, c, rfl, ha⟩ := hs.form
  exact ⟨a, c, b, o, rfl, ha, hr⟩
/-- a change's cells written out -/
theorem Chg.form {w : World} {c : Ch} {l : List Value} (h : Chg w c l) : ∃ ps b1 l1 f1 b2 l2 f2, l = .int .i64 c.op :: ps :: .int .i64 c.pos :: (vrow c.old.sc b1 l1 f1 ++ vrow c.new.sc b2 l2 f2) ∧ Pth w ps c.path ∧ Val w c.old (vrow c.old.sc b1 l1 f1) ∧ Val w c.new (vrow c.new.sc b2 l2 f2) ∧ l.all (·.oneCell') = true := by
  obtain ⟨ps, o, n, rfl, h1, h2, h3⟩ := h
  have e2 := h2.oneCell
  have e3 := h3.oneCell
  obtain ⟨b1, l1, f1, rfl, _⟩ := h2.open
  obtain ⟨b2, l2, f2, rfl, _⟩ := h3.open
  refine ⟨ps, b1, l1, f1, b2, l2, f2, rfl, h1, h2, h3, ?_⟩
  obtain ⟨_, _, _, _, rfl, _⟩ := h1.form
  simp only [List.all_cons, List.all_append, e2, e3]
  rfl

/-- a valid value of the laws on diff -/
structure Okv (N : Nat) (v : V) : Prop where
  ok : okd 48 v
  dp : deep 60 v
  sz : tsz 60 v ≤ N
theorem Okv.sz48 {N : Nat} {v : V} (h : Okv N v) : tsz 48 v = tsz 60 v := (tsz_deep 48 60 v (deep_of_okd 48 v h.ok) (by omega)).symm
def costOf (c : Ch) : Nat := (if c.op = 1 ∨ c.op = 3 then tsz 60 c.old else 0) + (if c.op = 1 ∨ c.op = 2 then tsz 60 c.new else 0)
theorem costOf_le {c : Ch} (h1 : Okv 150 c.old) (h2 : Okv 150 c.new) : costOf c ≤ 300 := by
  have := h1.sz
  have := h2.sz
  unfold costOf
  split <;> split <;> omega
end Go.Dk
