/-
  Plain: indexes as data, their checks, and what a path selects.
-/
import Derived.Test.YthiafbkolhnadaaGreatDoorPb
import Derived.Test.YthiafbkolhnadaaGreatDoorPc
set_option linter.unusedVariables false
namespace Go.Dk
open Go Go.RowKit Go.Lib

structure Ent where
  path : List Stp
  fr : Int
  to : Int
structure Idx where
  fmt : Int
  size : Int
  depth : Int
  ents : List Ent
  cols : List ByteArray
/-- entries in memory -/
def Ens (w : World) (s : Value) (l : List Ent) : Prop := ∃ b o, SliceAt (fun b => b < w.heap.size) s l.length b o ∧ ∀ i x, l[i]? = some x → ∃ p, RowAt w b (o + i * 3) [p, .int .i64 x.fr, .int .i64 x.to] ∧ Pth w p x.path
theorem Ens.up {w w' : World} (h : Below w.heap.size w w') {s : Value} {l : List Ent} (hp : Ens w s l) : Ens w' s l := by
  obtain ⟨b, o, hs, hr⟩ := hp
  refine ⟨b, o, hs.mono fun _ hb => Nat.lt_of_lt_of_le hb h.size, fun i x hx => ?_⟩
  obtain ⟨p, h1, h2⟩ := hr i x hx
  exact ⟨p, h1.up h, h2.up h⟩
theorem Ens.form {w : World} {s : Value} {l : List Ent} (h : Ens w s l) : ∃ a c b o, s = .slice a l.length c ∧ (0 < l.length → a = some ⟨b, o, none⟩) ∧ ∀ i x, l[i]? = some x → ∃ p, RowAt w b (o + i * 3) [p, .int .i64 x.fr, .int .i64 x.to] ∧ Pth w p x.path := by
  obtain ⟨b, o, hs, hr⟩ := h
  obtain ⟨a, c, rfl, ha⟩ := hs.form
  exact ⟨a, c, b, o, rfl, ha, hr⟩
/-- strings in memory -/
def Cls (w : World) (s : Value) (l : List ByteArray) : Prop := ∃ b o, SliceAt (fun b => b < w.heap.size) s l.length b o ∧ ∀ i x, l[i]? = some x → RowAt w b (o + i * 1) [.string x]
theorem Cls.up {w w' : World} (h : Below w.heap.size w w') {s : Value} {l : List ByteArray} (hp : Cls w s l) : Cls w' s l := by
  obtain ⟨b, o, hs, hr⟩ := hp
  exact ⟨b, o, hs.mono fun _ hb => Nat.lt_of_lt_of_le hb h.size, fun i x hx => (hr i x hx).up h⟩
theorem Cls.form {w : World} {s : Value} {l : List ByteArray} (h : Cls w s l) : ∃ a c b o, s = .slice a l.length c ∧ (0 < l.length → a = some ⟨b, o, none⟩) ∧ ∀ i x, l[i]? = some x → RowAt w b (o + i * 1) [.string x] := by
  obtain ⟨b, o, hs, hr⟩ := h
  obtain ⟨a, c, rfl, ha⟩ := hs.form
  exact ⟨a, c, b, o, rfl, ha, hr⟩
/-- an index in memory -/
def IdxV (w : World) (x : Idx) (r : List Value) : Prop := ∃ ve vc, r = [.int .i64 x.fmt, .int .i64 x.size, .int .i64 x.depth, ve, vc] ∧ Ens w ve x.ents ∧ Cls w vc x.cols
theorem IdxV.up {w w' : World} (h : Below w.heap.size w w') {x : Idx} {r : List Value} (hp : IdxV w x r) : IdxV w' x r := by
  obtain ⟨ve, vc, e, h1, h2⟩ := hp
  exact ⟨ve, vc, e, h1.up h, h2.up h⟩

/-! ### checks -/
/-- a valid step -/
def Stv (s : Stp) : Prop := (s.byIndex = true → s.key = ⟨#[]⟩ ∧ 0 ≤ s.index ∧ s.index ≤ 65536) ∧ (s.byIndex = false → s.index = 0 ∧ s.key.size ≤ 1024 ∧ validD s.key.data.toList = true)
def GdP (l : List Stp) : Prop := l.length ≤ 48 ∧ ∀ s ∈ l, Stv s
theorem Stv.gds {s : Stp} (h : Stv s) : GdS s := ⟨fun hb => (h.1 hb).2, fun hb => (h.2 hb).2.1⟩
theorem Stv.vs {s : Stp} (h : Stv s) : Vs s := ⟨fun hb => ⟨(h.1 hb).1, (h.1 hb).2.1⟩, fun hb => (h.2 hb).1⟩
def colBad (c : ByteArray) : Prop := validD c.data.toList = false ∨ 1024 < c.size
open Classical in
noncomputable def colsE (l : List ByteArray) : Int := if ∃ c ∈ l, colBad c then 1 else if l.Nodup then 0 else 8
theorem colsE_1 {l : List ByteArray} {c : ByteArray} {i : Nat} (hi : l[i]? = some c) (hb : colBad c) : colsE l = 1 := by
  unfold colsE; rw [if_pos ⟨c, List.mem_of_getElem? hi, hb⟩]
theorem colsE_8 {l : List ByteArray} (hg : ∀ c ∈ l, ¬ colBad c) {c : ByteArray} {i : Nat} (hi : l[i]? = some c) (hm : c ∈ l.take i) : colsE l = 8 := by
  unfold colsE
  rw [if_neg (by rintro ⟨c, h1, h2⟩; exact hg c h1 h2), if_neg]
  intro hn
  obtain ⟨hlt, e⟩ := List.getElem?_eq_some_iff.1 hi
  have h1 : (l.take (i + 1)).Nodup := (List.take_sublist _ _).nodup hn
  rw [List.take_succ_eq_append_getElem hlt, e] at h1
  exact (List.nodup_append.1 h1).2.2 c hm c (by simp) rfl
theorem colsE_0 {l : List ByteArray} (hg : ∀ c ∈ l, ¬ colBad c) (hn : l.Nodup) : colsE l = 0 := by
  unfold colsE
  rw [if_neg (by rintro ⟨c, h1, h2⟩; exact hg c h1 h2), if_pos hn]
theorem nodup_snoc {l : List ByteArray} {i : Nat} {c : ByteArray} (hn : (l.take i).Nodup) (hi : l[i]? = some c) (hm : c ∉ l.take i) : (l.take (i + 1)).Nodup := by
  obtain ⟨hlt, e⟩ := List.getElem?_eq_some_iff.1 hi
  rw [List.take_succ_eq_append_getElem hlt, e]
  refine List.nodup_append.2 ⟨hn, by simp, ?_⟩
  intro a ha b hb hab
  obtain rfl := List.mem_singleton.1 hb
  exact hm (hab ▸ ha)
def hdrBad (x : Idx) : Prop := (x.fmt ≠ 1 ∧ x.fmt ≠ 4) ∨ x.size < 0 ∨ 1048576 < x.size ∨ x.depth < 1 ∨ 48 < x.depth ∨ (x.fmt = 1 ∧ 0 < x.cols.length)
def pthBad (x : Idx) (e : Ent) : Prop := ¬ GdP e.path ∨ e.path.length = 0 ∨ x.depth < e.path.length ∨ (x.fmt = 4 ∧ 2 < e.path.length)
/-- the offset at which the last entry begins -/
def lastF (done : List Ent) : Int := match done.getLast? with | some p => p.fr | none => 0
def rngBad (x : Idx) (done : List Ent) (e : Ent) : Prop := e.fr < lastF done ∨ e.to < e.fr ∨ x.size < e.to
open Classical in
noncomputable def entE (x : Idx) (done : List Ent) (e : Ent) : Int := if pthBad x e then 21 else if rngBad x done e then 2 else if ∃ d ∈ done, d.path = e.path then 8 else 0
open Classical in
noncomputable def entsE (x : Idx) : List Ent → List Ent → Int
  | _, [] => 0
  | done, e :: r => if entE x done e ≠ 0 then entE x done e else entsE x (done ++ [e]) r
theorem entsE_skip (x : Idx) (l : List Ent) : ∀ i, i ≤ l.length → (∀ j e, j < i → l[j]? = some e → entE x (l.take j) e = 0) → entsE x [] l = entsE x (l.take i) (l.drop i)
  | 0, _, _ => by simp
  | i + 1, hi, h => by
    rw [entsE_skip x l i (by omega) fun j e hj he => h j e (by omega) he]
    have hlt : i < l.length := by omega
    have h0 := h i l[i] (by omega) (List.getElem?_eq_getElem hlt)
    rw [List.drop_eq_getElem_cons hlt]
    conv => lhs; unfold entsE
    rw [if_neg (by rw [h0]; simp), List.take_succ_eq_append_getElem hlt]
theorem entsE_at {x : Idx} {l : List Ent} {i : Nat} {e : Ent} {m : Int} (he : l[i]? = some e) (h : ∀ j e, j < i → l[j]? = some e → entE x (l.take j) e = 0) (hm : entE x (l.take i) e = m) (h0 : m ≠ 0) : entsE x [] l = m := by
  obtain ⟨hlt, e'⟩ := List.getElem?_eq_some_iff.1 he
  rw [entsE_skip x l i (by omega) h, List.drop_eq_getElem_cons hlt]
  unfold entsE
  rw [e', hm, if_pos h0]
theorem entsE_end {x : Idx} {l : List Ent} (h : ∀ j e, j < l.length → l[j]? = some e → entE x (l.take j) e = 0) : entsE x [] l = 0 := by
  rw [entsE_skip x l l.length (Nat.le_refl _) h]
  simp [entsE]
theorem entE_21 {x : Idx} {d : List Ent} {e : Ent} (h : pthBad x e) : entE x d e = 21 := by unfold entE; rw [if_pos h]
theorem entE_2 {x : Idx} {d : List Ent} {e : Ent} (h : ¬ pthBad x e) (h2 : rngBad x d e) : entE x d e = 2 := by unfold entE; rw [if_neg h, if_pos h2]
theorem entE_8 {x : Idx} {d : List Ent} {e : Ent} (h : ¬ pthBad x e) (h2 : ¬ rngBad x d e) (h3 : ∃ y ∈ d, y.path = e.path) : entE x d e = 8 := by unfold entE; rw [if_neg h, if_neg h2, if_pos h3]
theorem entE_0 {x : Idx} {d : List Ent} {e : Ent} (h : ¬ pthBad x e) (h2 : ¬ rngBad x d e) (h3 : ¬ ∃ y ∈ d, y.path = e.path) : entE x d e = 0 := by unfold entE; rw [if_neg h, if_neg h2, if_neg h3]
theorem entE_ok {x : Idx} {d : List Ent} {e : Ent} (h : entE x d e = 0) : ¬ pthBad x e ∧ ¬ rngBad x d e ∧ ¬ ∃ y ∈ d, y.path = e.path := by
  unfold entE at h
  split at h
  · simp at h
  · split at h
    · simp at h
    · split at h
      · simp at h
      · exact ⟨by assumption, by assumption, by assumption⟩
/-- all that were passed are good -/
def Past (x : Idx) (l : List Ent) (i : Nat) : Prop := ∀ j e, j < i → l[j]? = some e → entE x (l.take j) e = 0
theorem Past.zero (x : Idx) (l : List Ent) : Past x l 0 := fun j e hj => by omega
theorem Past.succ {x : Idx} {l : List Ent} {i : Nat} {e : Ent} (h : Past x l i) (he : l[i]? = some e) (h0 : entE x (l.take i) e = 0) : Past x l (i + 1) := by
  intro j e' hj he'
  rcases Nat.lt_or_ge j i with h1 | h1
  · exact h j e' h1 he'
  · obtain rfl : j = i := by omega
    rw [he] at he'
    cases he'
    exact h0
theorem Past.good {x : Idx} {l : List Ent} {i : Nat} (h : Past x l i) : ∀ e ∈ l.take i, GdP e.path := by
  intro e he
  obtain ⟨j, hj⟩ := List.getElem?_of_mem he
  have hlt := (List.getElem?_eq_some_iff.1 hj).1
  simp at hlt
  rw [List.getElem?_take] at hj
  split at hj
  · have := (entE_ok (h j e (by assumption) hj)).1
    unfold pthBad at this
    exact Classical.not_not.1 fun h => this (.inl h)
  · cases hj
theorem lastF_take {l : List Ent} {i : Nat} {e : Ent} (he : l[i]? = some e) : lastF (l.take (i + 1)) = e.fr := by
  obtain ⟨hlt, e'⟩ := List.getElem?_eq_some_iff.1 he
  rw [List.take_succ_eq_append_getElem hlt, e']
  simp [lastF]
theorem lastF_0 : lastF [] = 0 := rfl
theorem Past.last {x : Idx} {l : List Ent} : ∀ {i : Nat}, Past x l i → i ≤ l.length → 0 ≤ lastF (l.take i)
  | 0, _, _ => by simp [lastF]
  | i + 1, h, hi => by
    have he : l[i]? = some l[i] := List.getElem?_eq_getElem (by omega)
    rw [lastF_take he]
    have h1 := Past.last (i := i) (fun j e hj he => h j e (by omega) he) (by omega)
    have h2 := (entE_ok (h i l[i] (by omega) he)).2.1
    unfold rngBad at h2
    omega
open Classical in
noncomputable def chkX (x : Idx) : Int := if hdrBad x then 1 else if colsE x.cols ≠ 0 then colsE x.cols else entsE x [] x.ents
theorem chkX_1 {x : Idx} (h : hdrBad x) : chkX x = 1 := by unfold chkX; rw [if_pos h]
theorem chkX_c {x : Idx} (h : ¬ hdrBad x) (h2 : colsE x.cols ≠ 0) : chkX x = colsE x.cols := by unfold chkX; rw [if_neg h, if_pos h2]
theorem chkX_e {x : Idx} (h : ¬ hdrBad x) (h2 : colsE x.cols = 0) : chkX x = entsE x [] x.ents := by unfold chkX; rw [if_neg h, if_neg (by rw [h2]; simp)]
/-- one text, one path -/
theorem seen_iff {x : Idx} {l : List Ent} {i : Nat} {e : Ent} (h : Past x l i) (hg : GdP e.path) : bs (pathT e.path) ∈ (l.take i).map (fun y => bs (pathT y.path)) ↔ ∃ y ∈ l.take i, y.path = e.path := by
  constructor
  · intro hm
    obtain ⟨y, hy, e1⟩ := List.mem_map.1 hm
    refine ⟨y, hy, ?_⟩
    have e2 : pathT y.path = pathT e.path := by
      have := congrArg (fun b : ByteArray => b.data.toList) e1
      simpa [bs] using this
    exact path_inj (fun s hs => ((h.good y hy).2 s hs).vs) (fun s hs => (hg.2 s hs).vs) e2
  · rintro ⟨y, hy, e1⟩
    exact List.mem_map.2 ⟨y, hy, by rw [e1]⟩
end Go.Dk
