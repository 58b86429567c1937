/-
  What the form reads as data of the types of this translation lies in memory as the values of this proof.
-/
import Derived.Test.YtmkihcdcgkdilaaVd
import Derived.ProofKit
namespace Go.Proofs.Ytmkihcdcgkdilaa
open Go Go.Dk Go.RowKit
open Rows (uptoBulk uptoBulkAll)
set_option linter.unusedSimpArgs false

theorem szd_mono {N N' : Nat} (h : N ≤ N') : ∀ (d : Nat) (v : V), szd N d v → szd N' d v
  | 0, _, _ => trivial
  | d + 1, v, hv => by
    obtain ⟨h1, h2, h3, h4, h5, h6, h7⟩ := hv
    exact ⟨by omega, by omega, by omega, by omega, by omega, fun x hx => szd_mono h d x (h6 x hx), fun x hx => ⟨by have := (h7 x hx).1; omega, szd_mono h d x.2 (h7 x hx).2⟩⟩

section
variable {H : Type}
theorem bulk_one (d : DataW H) : 1 ≤ uptoBulk d := by
  cases d with
  | lit l => cases l <;> simp [uptoBulk]
  | _ => simp [uptoBulk]
theorem bulk_part {d : DataW H} {l : List (DataW H)} (h : d ∈ l) : uptoBulk d ≤ uptoBulkAll l := by
  induction l with
  | nil => cases h
  | cons x r ih =>
    simp only [uptoBulkAll]
    cases List.mem_cons.1 h with
    | inl e => subst e; omega
    | inr e => have := ih e; omega
theorem bulk_length (l : List (DataW H)) : l.length ≤ uptoBulkAll l := by
  induction l with
  | nil => simp [uptoBulkAll]
  | cons x r ih => have := bulk_one x; simp only [uptoBulkAll, List.length_cons]; omega

theorem cells_row {w : World} {base n : Nat} {a : Addr} {cs : List Value} (h : w.cells? base a n = some cs) : cs.length = n ∧ ∀ i x, cs[i]? = some x → w.cell? (a.add i) = some x := by
  unfold World.cells? at h
  split at h
  · have hl := mapM_some_length h
    simp only [List.length_range] at hl
    refine ⟨hl, fun i x hx => ?_⟩
    have hi : i < n := by have := (List.getElem?_eq_some_iff.1 hx).1; omega
    have := mapM_some_get h i i (by simp [hi])
    rw [this]; exact hx
  · cases h
theorem add_add (a : Addr) (h : a.spot = none) (i j : Nat) : (a.add i).add j = ⟨a.block, a.off + i + j, none⟩ := by
  obtain ⟨b, o, sp⟩ := a
  simp only at h
  subst h
  rw [add_addr, add_addr]

variable {enc : TypeId × Value → H} {w : World} {base : Nat} {spare : Nat → Bool} {held : Bool}
/-- the elements of a slice, one by one -/
theorem rd_slice {t e k n : Nat} {cs : List Value} {x : DataW H × List MemPlace} (ht : Try.prog.underlying t = some (.slice e)) (hk : Try.prog.cellsOf e = k) (hk0 : 0 < k) (h : DataW.trod enc Try.prog w base spare held (n + 1) t cs = some x) :
    ∃ s len b o, cs = [s] ∧ SliceAt (fun b => b < w.heap.size) s len b o ∧ len + 1 ≤ uptoBulk x.1 + 1 ∧
      ∀ i, i < len → ∃ r y, r.length = k ∧ RowAt w b (o + i * k) r ∧ DataW.trod enc Try.prog w base spare held n e r = some y ∧ uptoBulk y.1 + 1 ≤ uptoBulk x.1 := by
  rcases DataW.trod_slice ht h with ⟨rfl, rfl⟩ | ⟨a, len, cap, elems, rest, n', hn, rfl, rfl, hb, hl, hm, hlen, hel, _, _⟩
  · exact ⟨_, 0, 0, 0, rfl, .inl ⟨rfl, rfl⟩, by omega, fun i hi => by omega⟩
  · obtain rfl : n = n' := by omega
    have hb1 : uptoBulkAll (elems.map (·.1)) + 1 ≤ uptoBulk (DataW.slice (elems.map (·.1)) (rest.map (·.1))) := by simp only [uptoBulk]; omega
    have hb2 := bulk_length (elems.map (·.1))
    simp only [List.length_map] at hb2
    have key : ∀ i, i < len → ∃ r y, r.length = k ∧ (∀ j x, r[j]? = some x → w.cell? ((a.add (i * k)).add j) = some x) ∧ DataW.trod enc Try.prog w base spare held n e r = some y ∧ y ∈ elems := by
      intro i hi
      have h1 := hel i hi
      rw [hk] at h1
      have hi' : i < elems.length := by omega
      rw [List.getElem?_eq_getElem hi'] at h1
      cases hc : w.cells? base (a.add (i * k)) k with
      | none => rw [hc] at h1; cases h1
      | some r =>
        rw [hc] at h1
        obtain ⟨h2, h3⟩ := cells_row hc
        exact ⟨r, elems[i], h2, h3, h1, List.getElem_mem _⟩
    have hspot : 0 < len → a.spot = none := by
      intro h0
      obtain ⟨r, y, h1, h2, _⟩ := key 0 h0
      have hr : r[0]? = some r[0] := List.getElem?_eq_getElem (by omega)
      have := World.cell?_spot (h2 0 _ hr)
      simpa [Addr.add] using this
    have hblk : 0 < len → a.block < w.heap.size := by
      intro h0
      obtain ⟨r, y, h1, h2, _⟩ := key 0 h0
      have hr : r[0]? = some r[0] := List.getElem?_eq_getElem (by omega)
      have := block_lt_of_cell (h2 0 _ hr)
      simpa [Addr.add] using this
    refine ⟨_, len, a.block, a.off, rfl, .inr ⟨a, cap, rfl, hl, fun h0 => ⟨?_, hblk h0⟩⟩, by dsimp only; omega, ?_⟩
    · have := hspot h0
      obtain ⟨b, o, sp⟩ := a
      simp only at this
      subst this
      rfl
    · intro i hi
      obtain ⟨r, y, h1, h2, h3, h4⟩ := key i hi
      refine ⟨r, y, h1, fun j x hj => ?_, h3, ?_⟩
      · have := h2 j x hj
        rwa [add_add a (hspot (by omega))] at this
      · have := bulk_part (List.mem_map.2 ⟨y, h4, rfl⟩ : y.1 ∈ elems.map (·.1))
        dsimp only
        omega

theorem cellsOf_of {t k : Nat} (h : (Try.prog.info? t).map (·.size) = some k) : Try.prog.cellsOf t = k := by unfold Program.cellsOf; rw [h]; rfl

/-- a struct's parts -/
theorem rd_struct {t k n : Nat} {fs : Array Field} {cs : List Value} {x : DataW H × List MemPlace} (ht : Try.prog.underlying t = some (.struct fs)) (hk : Try.prog.cellsOf t = k) (h : DataW.trod enc Try.prog w base spare held (n + 1) t cs = some x) :
    cs.length = k ∧ ∀ (i ty off m : Nat), (fs[i]?.map fun f => (f.type, f.offset)) = some (ty, off) → Try.prog.cellsOf ty = m → ∃ y, DataW.trod enc Try.prog w base spare held n ty ((cs.drop off).take m) = some y ∧ uptoBulk y.1 + 1 ≤ uptoBulk x.1 := by
  obtain ⟨xs, n', hn, rfl, hl, hlen, hf⟩ := DataW.trod_struct ht h
  obtain rfl : n = n' := by omega
  refine ⟨hl.trans hk, fun i ty off m hfi hm => ?_⟩
  cases hfi' : fs[i]? with
  | none => rw [hfi'] at hfi; cases hfi
  | some f =>
  rw [hfi'] at hfi
  simp only [Option.map_some, Option.some.injEq, Prod.mk.injEq] at hfi
  obtain ⟨rfl, rfl⟩ := hfi
  subst hm
  have hi : i < xs.length := by rw [hlen]; exact (Array.getElem?_eq_some_iff.1 hfi').1
  have h1 := hf i f hfi'
  rw [List.getElem?_eq_getElem hi] at h1
  refine ⟨xs[i], h1, ?_⟩
  have := bulk_part (List.mem_map.2 ⟨xs[i], List.getElem_mem _, rfl⟩ : xs[i].1 ∈ xs.map (·.1))
  simp only [uptoBulk]
  omega
theorem rd_int {t n : Nat} {k : IntKind} {cs : List Value} {x : DataW H × List MemPlace} (ht : Try.prog.underlying t = some (.int k)) (h : DataW.trod enc Try.prog w base spare held n t cs = some x) : ∃ m, cs = [.int k m] := by
  obtain ⟨m, h1, _⟩ := DataW.trod_int ht h; exact ⟨m, h1⟩
theorem rd_bool {t n : Nat} {cs : List Value} {x : DataW H × List MemPlace} (ht : Try.prog.underlying t = some .bool) (h : DataW.trod enc Try.prog w base spare held n t cs = some x) : ∃ m, cs = [.bool m] := by
  obtain ⟨m, h1, _⟩ := DataW.trod_bool ht h; exact ⟨m, h1⟩
theorem rd_string {t n : Nat} {cs : List Value} {x : DataW H × List MemPlace} (ht : Try.prog.underlying t = some .string) (h : DataW.trod enc Try.prog w base spare held n t cs = some x) : ∃ s : ByteArray, cs = [.string s] ∧ s.size + 1 ≤ uptoBulk x.1 := by
  obtain ⟨s, h1, rfl, _⟩ := DataW.trod_string ht h
  refine ⟨s, h1, ?_⟩
  simp only [uptoBulk, Array.length_toList]
  exact Nat.le_refl _

theorem RepLs_of {A : Nat → Prop} {w : World} {b : Nat} : ∀ (l : List V) (o : Nat), (∀ i v, l[i]? = some v → ∃ r, RowAt w b (o + i * 13) r ∧ RepV A w v r) → RepLs A w b o l
  | [], _, _ => trivial
  | v :: l, o, h => by
    simp only [RepLs]
    refine ⟨by simpa using h 0 v rfl, RepLs_of l (o + 13) fun i u hu => ?_⟩
    have := h (i + 1) u (by simpa using hu)
    rwa [show o + (i + 1) * 13 = o + 13 + i * 13 by omega] at this
theorem RepFs_of {A : Nat → Prop} {w : World} {b : Nat} : ∀ (l : List (ByteArray × V)) (o : Nat), (∀ i kv, l[i]? = some kv → ∃ r, RowAt w b (o + i * 14) (.string kv.1 :: r) ∧ RepV A w kv.2 r) → RepFs A w b o l
  | [], _, _ => trivial
  | (k, v) :: l, o, h => by
    simp only [RepFs, RepP]
    refine ⟨by simpa using h 0 (k, v) rfl, RepFs_of l (o + 14) fun i u hu => ?_⟩
    have := h (i + 1) u (by simpa using hu)
    rwa [show o + (i + 1) * 14 = o + 14 + i * 14 by omega] at this
/-- one for each index: a list of them -/
theorem list_of {α : Type} {p : Nat → α → Prop} (n : Nat) (h : ∀ i, i < n → ∃ a, p i a) : ∃ l : List α, l.length = n ∧ ∀ i a, l[i]? = some a → p i a := by
  induction n with
  | zero => exact ⟨[], rfl, fun i a ha => by simp at ha⟩
  | succ n ih =>
    obtain ⟨l, hl, hp⟩ := ih fun i hi => h i (by omega)
    obtain ⟨a, ha⟩ := h n (by omega)
    refine ⟨l ++ [a], by simp [hl], fun i b hb => ?_⟩
    rcases Nat.lt_or_ge i n with hi | hi
    · rw [List.getElem?_append_left (by omega)] at hb; exact hp i b hb
    · rw [List.getElem?_append_right (by omega)] at hb
      have : i = n := by
        rcases Nat.eq_zero_or_pos (i - l.length) with h0 | h0
        · omega
        · rw [List.getElem?_eq_none (by simp; omega)] at hb; cases hb
      subst this
      rw [hl, Nat.sub_self] at hb
      simp at hb
      subst hb
      exact ha

theorem cells13 {l : List Value} (h : l.length = 13) : ∃ c0 c1 c2 c3 c4 c5 c6 c7 c8 c9 c10 c11 c12, l = [c0, c1, c2, c3, c4, c5, c6, c7, c8, c9, c10, c11, c12] := by
  match l, h with
  | [c0, c1, c2, c3, c4, c5, c6, c7, c8, c9, c10, c11, c12], _ => exact ⟨_, _, _, _, _, _, _, _, _, _, _, _, _, rfl⟩
theorem cells3 {l : List Value} (h : l.length = 3) : ∃ c0 c1 c2, l = [c0, c1, c2] := by
  match l, h with
  | [c0, c1, c2], _ => exact ⟨_, _, _, rfl⟩
theorem cells29 {l : List Value} (h : l.length = 29) : ∃ c0 c1 c2 r, l = c0 :: c1 :: c2 :: r ∧ r.length = 26 := by
  match l, h with
  | c0 :: c1 :: c2 :: r, h => exact ⟨_, _, _, _, rfl, by simpa using h⟩
theorem cells14 {l : List Value} (h : l.length = 14) : ∃ c0 r, l = c0 :: r ∧ r.length = 13 := by
  match l, h with
  | c0 :: r, h => exact ⟨_, _, rfl, by simpa using h⟩
/-- bytes -/
theorem rd_bytes {t n : Nat} {cs : List Value} {x : DataW H × List MemPlace} (ht : Try.prog.underlying t = some (.slice 5)) (h : DataW.trod enc Try.prog w base spare held n t cs = some x) :
    ∃ s l, cs = [s] ∧ RepB (fun b => b < w.heap.size) w s l ∧ l.length ≤ uptoBulk x.1 := by
  cases n with
  | zero => simp [DataW.trod] at h
  | succ n =>
  obtain ⟨s, len, b, o, rfl, hs, hb, hel⟩ := rd_slice ht (cellsOf_of sz5) (by omega) h
  obtain ⟨l, hl, hp⟩ := list_of (p := fun i (u : UInt8) => w.cell? ⟨b, o + i, none⟩ = some (byteVal u)) len fun i hi => by
    obtain ⟨r, y, hr, h1, h2, _⟩ := hel i hi
    obtain ⟨m, rfl⟩ := rd_int Try.underlying5 h2
    obtain ⟨m', e, _, hm⟩ := DataW.trod_int Try.underlying5 h2
    have := h1 0 _ rfl
    rw [Nat.mul_one, Nat.add_zero] at this
    obtain ⟨u, hu⟩ : ∃ u : UInt8, Value.int .u8 m = byteVal u := by
      refine ⟨UInt8.ofNat m.toNat, ?_⟩
      simp only [List.cons.injEq, Value.int.injEq, true_and, and_true] at e
      subst e
      simp only [Lit.wf, IntKind.min, IntKind.max, Bool.and_eq_true, decide_eq_true_eq] at hm
      simp only [byteVal]
      have h0 : 0 ≤ m := by have := hm.1; simpa [IntKind.signed] using this
      have h1 : m ≤ 255 := by have := hm.2; simpa [IntKind.signed, IntKind.bits] using this
      rw [UInt8.toNat_ofNat_of_lt' (by show m.toNat < 256; omega), Int.toNat_of_nonneg h0]
    exact ⟨u, by rw [this, hu]⟩
  subst hl
  refine ⟨s, l, rfl, ⟨b, o, hs, fun i y hy => ?_⟩, by omega⟩
  rw [List.getElem?_map] at hy
  cases hu : l[i]? with
  | none => rw [hu] at hy; cases hy
  | some u =>
    rw [hu] at hy
    simp only [Option.map_some, Option.some.injEq] at hy
    rw [hp i u hu, hy]

/-- a value: its cells hold one, and all in it is of a size within the bulk -/
def Has (w : World) (cs : List Value) (N : Nat) : Prop := ∃ v, Val w v cs ∧ ∀ d, szd N d v
theorem rd33 : ∀ (n : Nat) (cs : List Value) (x : DataW H × List MemPlace), DataW.trod enc Try.prog w base spare held n 33 cs = some x → Has w cs (uptoBulk x.1) := by
  intro n
  induction n using Nat.strongRecOn with
  | _ n ih =>
  intro cs x h
  cases n with
  | zero => simp [DataW.trod] at h
  | succ n =>
  obtain ⟨hl, hf⟩ := rd_struct Try.underlying33 (cellsOf_of sz33) h
  obtain ⟨c0, c1, c2, c3, c4, c5, c6, c7, c8, c9, c10, c11, c12, rfl⟩ := cells13 hl
  obtain ⟨y0, t0, _⟩ := hf 0 3 0 1 rfl (cellsOf_of sz3)
  obtain ⟨y1, t1, _⟩ := hf 1 4 1 1 rfl (cellsOf_of sz4)
  obtain ⟨y2, t2, u2⟩ := hf 2 26 2 3 rfl (cellsOf_of sz26)
  obtain ⟨y3, t3, _⟩ := hf 3 28 5 4 rfl (cellsOf_of sz28)
  obtain ⟨y4, t4, u4⟩ := hf 4 9 9 1 rfl (cellsOf_of sz9)
  obtain ⟨y5, t5, u5⟩ := hf 5 29 10 1 rfl (cellsOf_of sz29)
  obtain ⟨y6, t6, u6⟩ := hf 6 30 11 1 rfl (cellsOf_of sz30)
  obtain ⟨y7, t7, u7⟩ := hf 7 31 12 1 rfl (cellsOf_of sz31)
  simp only [List.drop_succ_cons, List.drop_zero, List.take_succ_cons, List.take_zero] at t0 t1 t2 t3 t4 t5 t6 t7
  cases n with
  | zero => simp [DataW.trod] at t0
  | succ n =>
  obtain ⟨k, e0⟩ := rd_int Try.underlying3 t0
  obtain ⟨bo, e1⟩ := rd_bool Try.underlying4 t1
  obtain ⟨tx, e4, z4⟩ := rd_string Try.underlying9 t4
  simp only [List.cons.injEq, and_true] at e0 e1 e4
  subst e0 e1 e4
  obtain ⟨_, hn⟩ := rd_struct Try.underlying26 (cellsOf_of sz26) t2
  obtain ⟨n0, p0, _⟩ := hn 0 4 0 1 rfl (cellsOf_of sz4)
  obtain ⟨n1, p1, v1⟩ := hn 1 9 1 1 rfl (cellsOf_of sz9)
  obtain ⟨n2, p2, _⟩ := hn 2 3 2 1 rfl (cellsOf_of sz3)
  obtain ⟨_, ht⟩ := rd_struct Try.underlying28 (cellsOf_of sz28) t3
  obtain ⟨m0, q0, _⟩ := ht 0 3 0 1 rfl (cellsOf_of sz3)
  obtain ⟨m1, q1, _⟩ := ht 1 3 1 1 rfl (cellsOf_of sz3)
  obtain ⟨m2, q2, _⟩ := ht 2 3 2 1 rfl (cellsOf_of sz3)
  obtain ⟨m3, q3, _⟩ := ht 3 3 3 1 rfl (cellsOf_of sz3)
  simp only [List.drop_succ_cons, List.drop_zero, List.take_succ_cons, List.take_zero] at p0 p1 p2 q0 q1 q2 q3
  obtain ⟨neg, e⟩ := rd_bool Try.underlying4 p0
  simp only [List.cons.injEq, and_true] at e; subst e
  obtain ⟨dig, e, zd⟩ := rd_string Try.underlying9 p1
  simp only [List.cons.injEq, and_true] at e; subst e
  obtain ⟨ex, e⟩ := rd_int Try.underlying3 p2
  simp only [List.cons.injEq, and_true] at e; subst e
  obtain ⟨tk, e⟩ := rd_int Try.underlying3 q0
  simp only [List.cons.injEq, and_true] at e; subst e
  obtain ⟨td, e⟩ := rd_int Try.underlying3 q1
  simp only [List.cons.injEq, and_true] at e; subst e
  obtain ⟨tn, e⟩ := rd_int Try.underlying3 q2
  simp only [List.cons.injEq, and_true] at e; subst e
  obtain ⟨tz, e⟩ := rd_int Try.underlying3 q3
  simp only [List.cons.injEq, and_true] at e; subst e
  obtain ⟨bs, bl, e, hB, zB⟩ := rd_bytes Try.underlying29 t5
  simp only [List.cons.injEq, and_true] at e; subst e
  obtain ⟨ls, ll, b6, o6, e, s6, z6, g6⟩ := rd_slice Try.underlying30 (cellsOf_of sz33) (by omega) t6
  simp only [List.cons.injEq, and_true] at e; subst e
  obtain ⟨fs, fl, b7, o7, e, s7, z7, g7⟩ := rd_slice Try.underlying31 (cellsOf_of sz77) (by omega) t7
  simp only [List.cons.injEq, and_true] at e; subst e
  obtain ⟨L, hL, pL⟩ := list_of (p := fun i (v : V) => (∃ r, RowAt w b6 (o6 + i * 13) r ∧ Val w v r) ∧ ∀ d, szd (uptoBulk x.1) d v) ll fun i hi => by
    obtain ⟨r, y, _, h1, h2, h3⟩ := g6 i hi
    obtain ⟨v, h4, h5⟩ := ih n (by omega) r y h2
    exact ⟨v, ⟨r, h1, h4⟩, fun d => szd_mono (by omega) d v (h5 d)⟩
  obtain ⟨F, hF, pF⟩ := list_of (p := fun i (kv : ByteArray × V) => (∃ r, RowAt w b7 (o7 + i * 14) (.string kv.1 :: r) ∧ Val w kv.2 r) ∧ kv.1.size ≤ uptoBulk x.1 ∧ ∀ d, szd (uptoBulk x.1) d kv.2) fl fun i hi => by
    obtain ⟨r, y, hr, h1, h2, h3⟩ := g7 i hi
    cases n with
    | zero => simp [DataW.trod] at h2
    | succ n =>
    obtain ⟨hl, hg⟩ := rd_struct Try.underlying77 (cellsOf_of sz77) h2
    obtain ⟨c, r', rfl, hl'⟩ := cells14 hl
    obtain ⟨y0, a0, b0⟩ := hg 0 9 0 1 rfl (cellsOf_of sz9)
    obtain ⟨y1, a1, b1⟩ := hg 1 33 1 13 rfl (cellsOf_of sz33)
    simp only [List.drop_succ_cons, List.drop_zero, List.take_succ_cons, List.take_zero] at a0 a1
    rw [List.take_of_length_le (by omega)] at a1
    obtain ⟨key, e, zk⟩ := rd_string Try.underlying9 a0
    simp only [List.cons.injEq, and_true] at e; subst e
    obtain ⟨v, h4, h5⟩ := ih n (by omega) r' y1 a1
    exact ⟨(key, v), ⟨r', h1, h4⟩, by dsimp only; omega, fun d => szd_mono (by omega) d v (h5 d)⟩
  refine ⟨.mk ⟨k, bo, neg, dig, ex, tk, td, tn, tz, tx⟩ bl L F, RepV.mk (v := .mk ⟨k, bo, neg, dig, ex, tk, td, tn, tz, tx⟩ bl L F) hB ⟨b6, o6, by subst hL; exact s6, RepLs_of L o6 fun i v hv => (pL i v hv).1⟩ ⟨b7, o7, by subst hF; exact s7, RepFs_of F o7 fun i v hv => (pF i v hv).1⟩, fun d => ?_⟩
  cases d with
  | zero => trivial
  | succ d =>
    refine ⟨by simp only [V.sc]; omega, by simp only [V.sc]; omega, by simp only [V.bytes]; omega, by simp only [V.list]; omega, by simp only [V.fields]; omega, fun v hv => ?_, fun kv hv => ?_⟩
    · obtain ⟨i, hi⟩ := List.getElem?_of_mem hv
      exact (pL i v hi).2 d
    · obtain ⟨i, hi⟩ := List.getElem?_of_mem hv
      exact ⟨(pF i kv hi).2.1, (pF i kv hi).2.2 d⟩

/-- a path -/
theorem rd24 {n : Nat} {cs : List Value} {x : DataW H × List MemPlace} (h : DataW.trod enc Try.prog w base spare held n 24 cs = some x) : ∃ s l, cs = [s] ∧ Pth w s l := by
  cases n with
  | zero => simp [DataW.trod] at h
  | succ n =>
  obtain ⟨s, len, b, o, rfl, hs, hb, hel⟩ := rd_slice Try.underlying24 (cellsOf_of sz112) (by omega) h
  obtain ⟨l, hl, hp⟩ := list_of (p := fun i (u : Stp) => RowAt w b (o + i * 3) (srow u)) len fun i hi => by
    obtain ⟨r, y, hr, h1, h2, _⟩ := hel i hi
    cases n with
    | zero => simp [DataW.trod] at h2
    | succ n =>
    obtain ⟨hl, hg⟩ := rd_struct Try.underlying112 (cellsOf_of sz112) h2
    obtain ⟨r0, r1, r2, rfl⟩ := cells3 hl
    obtain ⟨y0, a0, _⟩ := hg 0 4 0 1 rfl (cellsOf_of sz4)
    obtain ⟨y1, a1, _⟩ := hg 1 9 1 1 rfl (cellsOf_of sz9)
    obtain ⟨y2, a2, _⟩ := hg 2 3 2 1 rfl (cellsOf_of sz3)
    simp only [List.drop_succ_cons, List.drop_zero, List.take_succ_cons, List.take_zero] at a0 a1 a2
    obtain ⟨v0, e⟩ := rd_bool Try.underlying4 a0
    simp only [List.cons.injEq, and_true] at e; subst e
    obtain ⟨v1, e, _⟩ := rd_string Try.underlying9 a1
    simp only [List.cons.injEq, and_true] at e; subst e
    obtain ⟨v2, e⟩ := rd_int Try.underlying3 a2
    simp only [List.cons.injEq, and_true] at e; subst e
    exact ⟨⟨v0, v1, v2⟩, h1⟩
  subst hl
  exact ⟨s, l, rfl, b, o, hs, hp⟩

/-- a list of changes -/
theorem rd22 {n : Nat} {cs : List Value} {x : DataW H × List MemPlace} (h : DataW.trod enc Try.prog w base spare held n 22 cs = some x) (hN : uptoBulk x.1 ≤ 1048576) :
    ∃ s l, cs = [s] ∧ Chs w s l ∧ l.length ≤ 1048576 ∧ ∀ c ∈ l, Fine c.old ∧ Fine c.new := by
  cases n with
  | zero => simp [DataW.trod] at h
  | succ n =>
  obtain ⟨s, len, b, o, rfl, hs, hb, hel⟩ := rd_slice Try.underlying22 (cellsOf_of sz35) (by omega) h
  obtain ⟨l, hl, hp⟩ := list_of (p := fun i (c : Ch) => (∃ r, RowAt w b (o + i * 29) r ∧ Chg w c r) ∧ Fine c.old ∧ Fine c.new) len fun i hi => by
    obtain ⟨r, y, hr, h1, h2, h3⟩ := hel i hi
    cases n with
    | zero => simp [DataW.trod] at h2
    | succ n =>
    obtain ⟨hl, hg⟩ := rd_struct Try.underlying35 (cellsOf_of sz35) h2
    obtain ⟨r0, r1, r2, r', rfl, hl'⟩ := cells29 hl
    obtain ⟨y0, a0, _⟩ := hg 0 3 0 1 rfl (cellsOf_of sz3)
    obtain ⟨y1, a1, _⟩ := hg 1 24 1 1 rfl (cellsOf_of sz24)
    obtain ⟨y2, a2, _⟩ := hg 2 3 2 1 rfl (cellsOf_of sz3)
    obtain ⟨y3, a3, u3⟩ := hg 3 33 3 13 rfl (cellsOf_of sz33)
    obtain ⟨y4, a4, u4⟩ := hg 4 33 16 13 rfl (cellsOf_of sz33)
    simp only [List.drop_succ_cons, List.drop_zero, List.take_succ_cons, List.take_zero] at a0 a1 a2 a3 a4
    rw [List.take_of_length_le (l := List.drop 13 r') (by simp; omega)] at a4
    obtain ⟨op, e⟩ := rd_int Try.underlying3 a0
    simp only [List.cons.injEq, and_true] at e; subst e
    obtain ⟨ps, pl, e, hp⟩ := rd24 a1
    simp only [List.cons.injEq, and_true] at e; subst e
    obtain ⟨pos, e⟩ := rd_int Try.underlying3 a2
    simp only [List.cons.injEq, and_true] at e; subst e
    obtain ⟨v3, w3, z3⟩ := rd33 _ _ _ a3
    obtain ⟨v4, w4, z4⟩ := rd33 _ _ _ a4
    exact ⟨⟨op, pl, pos, v3, v4⟩, ⟨_, h1, _, r'.take 13, r'.drop 13, by rw [List.take_append_drop], hp, w3, w4⟩, fun d => szd_mono (by omega) d _ (z3 d), fun d => szd_mono (by omega) d _ (z4 d)⟩
  subst hl
  exact ⟨s, l, rfl, ⟨b, o, hs, fun i c hc => (hp i c hc).1⟩, by omega, fun c hc => by
    obtain ⟨i, hi⟩ := List.getElem?_of_mem hc
    exact (hp i c hi).2⟩
end
end Go.Proofs.Ytmkihcdcgkdilaa
