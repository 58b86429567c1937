/-
  Several texts in one: Rd Tb
-/
import Derived.Test.YthlkmblljanfmaaGreatDoorWA
import Derived.ProofKit
import Derived.Test.YthlkmblljanfmaaGreatDoorRows
import Derived.Test.YthlkmblljanfmaaGreatDoorWG
import Derived.Lib.LaidU8
import Derived.MakeChecks
import Derived.KernelRfl
section
namespace Go.Proofs.YthlkmblljanfmaaGreatDoor
open Go Go.Dk Go.RowKit
open Rows (uptoBulk uptoBulkAll)
set_option linter.unusedSimpArgs false
set_option linter.unusedVariables false
section
variable {H : Type}
theorem bulk_one (d : DataW H) : 1 ≤ uptoBulk d := by
  cases d with
  | lit l => cases l <;> simp [uptoBulk]
  | _ => simp [uptoBulk]
theorem bulk_part {d : DataW H} {l : List (DataW H)} (h : d ∈ l) : uptoBulk d ≤ uptoBulkAll l := by
  induction l with
  | nil => cases h
  | cons x r ih =>
    simp only [uptoBulkAll]
    cases List.mem_cons.1 h with
    | inl e => subst e; omega
    | inr e => have := ih e; omega
theorem bulk_length (l : List (DataW H)) : l.length ≤ uptoBulkAll l := by
  induction l with
  | nil => simp [uptoBulkAll]
  | cons x r ih => have := bulk_one x; simp only [uptoBulkAll, List.length_cons]; omega
theorem cells_row {w : World} {base n : Nat} {a : Addr} {cs : List Value} (h : w.cells? base a n = some cs) : cs.length = n ∧ ∀ i x, cs[i]? = some x → w.cell? (a.add i) = some x := by
  unfold World.cells? at h
  split at h
  · have hl := mapM_some_length h
    simp only [List.length_range] at hl
    refine ⟨hl, fun i x hx => ?_⟩
    have hi : i < n := by have := (List.getElem?_eq_some_iff.1 hx).1; omega
    have := mapM_some_get h i i (by simp [hi])
    rw [this]; exact hx
  · cases h
theorem add_add (a : Addr) (h : a.spot = none) (i j : Nat) : (a.add i).add j = ⟨a.block, a.off + i + j, none⟩ := by
  obtain ⟨b, o, sp⟩ := a
  simp only at h
  subst h
  rw [add_addr, add_addr]
variable {enc : TypeId × Value → H} {w : World} {base : Nat} {spare : Nat → Bool} {held : Bool}
theorem rd_slice {t e k n : Nat} {cs : List Value} {x : DataW H × List MemPlace} (ht : Tryz.prog.underlying t = some (.slice e)) (hk : Tryz.prog.cellsOf e = k) (hk0 : 0 < k) (h : DataW.trod enc Tryz.prog w base spare held (n + 1) t cs = some x) :
    ∃ s len b o, cs = [s] ∧ SliceAt (fun b => b < w.heap.size) s len b o ∧ len + 1 ≤ uptoBulk x.1 + 1 ∧
      ∀ i, i < len → ∃ r y, r.length = k ∧ RowAt w b (o + i * k) r ∧ DataW.trod enc Tryz.prog w base spare held n e r = some y ∧ uptoBulk y.1 + 1 ≤ uptoBulk x.1 := by
  rcases DataW.trod_slice ht h with ⟨rfl, rfl⟩ | ⟨a, len, cap, elems, rest, n', hn, rfl, rfl, hb, hl, hm, hlen, hel, _, _⟩
  · exact ⟨_, 0, 0, 0, rfl, .inl ⟨rfl, rfl⟩, by omega, fun i hi => by omega⟩
  · obtain rfl : n = n' := by omega
    have hb1 : uptoBulkAll (elems.map (·.1)) + 1 ≤ uptoBulk (DataW.slice (elems.map (·.1)) (rest.map (·.1))) := by simp only [uptoBulk]; omega
    have hb2 := bulk_length (elems.map (·.1))
    simp only [List.length_map] at hb2
    have key : ∀ i, i < len → ∃ r y, r.length = k ∧ (∀ j x, r[j]? = some x → w.cell? ((a.add (i * k)).add j) = some x) ∧ DataW.trod enc Tryz.prog w base spare held n e r = some y ∧ y ∈ elems := by
      intro i hi
      have h1 := hel i hi
      rw [hk] at h1
      have hi' : i < elems.length := by omega
      rw [List.getElem?_eq_getElem hi'] at h1
      cases hc : w.cells? base (a.add (i * k)) k with
      | none => rw [hc] at h1; cases h1
      | some r =>
        rw [hc] at h1
        obtain ⟨h2, h3⟩ := cells_row hc
        exact ⟨r, elems[i], h2, h3, h1, List.getElem_mem _⟩
    have hspot : 0 < len → a.spot = none := by
      intro h0
      obtain ⟨r, y, h1, h2, _⟩ := key 0 h0
      have hr : r[0]? = some r[0] := List.getElem?_eq_getElem (by omega)
      have := World.cell?_spot (h2 0 _ hr)
      simpa [Addr.add] using this
    have hblk : 0 < len → a.block < w.heap.size := by
      intro h0
      obtain ⟨r, y, h1, h2, _⟩ := key 0 h0
      have hr : r[0]? = some r[0] := List.getElem?_eq_getElem (by omega)
      have := block_lt_of_cell (h2 0 _ hr)
      simpa [Addr.add] using this
    refine ⟨_, len, a.block, a.off, rfl, .inr ⟨a, cap, rfl, hl, fun h0 => ⟨?_, hblk h0⟩⟩, by dsimp only; omega, ?_⟩
    · have := hspot h0
      obtain ⟨b, o, sp⟩ := a
      simp only at this
      subst this
      rfl
    · intro i hi
      obtain ⟨r, y, h1, h2, h3, h4⟩ := key i hi
      refine ⟨r, y, h1, fun j x hj => ?_, h3, ?_⟩
      · have := h2 j x hj
        rwa [add_add a (hspot (by omega))] at this
      · have := bulk_part (List.mem_map.2 ⟨y, h4, rfl⟩ : y.1 ∈ elems.map (·.1))
        dsimp only
        omega
theorem cellsOf_of {t k : Nat} (h : (Tryz.prog.info? t).map (·.size) = some k) : Tryz.prog.cellsOf t = k := by unfold Program.cellsOf; rw [h]; rfl
theorem rd_struct {t k n : Nat} {fs : Array Field} {cs : List Value} {x : DataW H × List MemPlace} (ht : Tryz.prog.underlying t = some (.struct fs)) (hk : Tryz.prog.cellsOf t = k) (h : DataW.trod enc Tryz.prog w base spare held (n + 1) t cs = some x) :
    cs.length = k ∧ ∀ (i ty off m : Nat), (fs[i]?.map fun f => (f.type, f.offset)) = some (ty, off) → Tryz.prog.cellsOf ty = m → ∃ y, DataW.trod enc Tryz.prog w base spare held n ty ((cs.drop off).take m) = some y ∧ uptoBulk y.1 + 1 ≤ uptoBulk x.1 := by
  obtain ⟨xs, n', hn, rfl, hl, hlen, hf⟩ := DataW.trod_struct ht h
  obtain rfl : n = n' := by omega
  refine ⟨hl.trans hk, fun i ty off m hfi hm => ?_⟩
  cases hfi' : fs[i]? with
  | none => rw [hfi'] at hfi; cases hfi
  | some f =>
  rw [hfi'] at hfi
  simp only [Option.map_some, Option.some.injEq, Prod.mk.injEq] at hfi
  obtain ⟨rfl, rfl⟩ := hfi
  subst hm
  have hi : i < xs.length := by rw [hlen]; exact (Array.getElem?_eq_some_iff.1 hfi').1
  have h1 := hf i f hfi'
  rw [List.getElem?_eq_getElem hi] at h1
  refine ⟨xs[i], h1, ?_⟩
  have := bulk_part (List.mem_map.2 ⟨xs[i], List.getElem_mem _, rfl⟩ : xs[i].1 ∈ xs.map (·.1))
  simp only [uptoBulk]
  omega
theorem rd_int {t n : Nat} {k : IntKind} {cs : List Value} {x : DataW H × List MemPlace} (ht : Tryz.prog.underlying t = some (.int k)) (h : DataW.trod enc Tryz.prog w base spare held n t cs = some x) : ∃ m, cs = [.int k m] := by
  obtain ⟨m, h1, _⟩ := DataW.trod_int ht h; exact ⟨m, h1⟩
theorem rd_bool {t n : Nat} {cs : List Value} {x : DataW H × List MemPlace} (ht : Tryz.prog.underlying t = some .bool) (h : DataW.trod enc Tryz.prog w base spare held n t cs = some x) : ∃ m, cs = [.bool m] := by
  obtain ⟨m, h1, _⟩ := DataW.trod_bool ht h; exact ⟨m, h1⟩
theorem rd_string {t n : Nat} {cs : List Value} {x : DataW H × List MemPlace} (ht : Tryz.prog.underlying t = some .string) (h : DataW.trod enc Tryz.prog w base spare held n t cs = some x) : ∃ s : ByteArray, cs = [.string s] ∧ s.size + 1 ≤ uptoBulk x.1 := by
  obtain ⟨s, h1, rfl, _⟩ := DataW.trod_string ht h
  refine ⟨s, h1, ?_⟩
  simp only [uptoBulk, Array.length_toList]
  exact Nat.le_refl _
theorem list_of {α : Type} {p : Nat → α → Prop} (n : Nat) (h : ∀ i, i < n → ∃ a, p i a) : ∃ l : List α, l.length = n ∧ ∀ i a, l[i]? = some a → p i a := by
  induction n with
  | zero => exact ⟨[], rfl, fun i a ha => by simp at ha⟩
  | succ n ih =>
    obtain ⟨l, hl, hp⟩ := ih fun i hi => h i (by omega)
    obtain ⟨a, ha⟩ := h n (by omega)
    refine ⟨l ++ [a], by simp [hl], fun i b hb => ?_⟩
    rcases Nat.lt_or_ge i n with hi | hi
    · rw [List.getElem?_append_left (by omega)] at hb; exact hp i b hb
    · rw [List.getElem?_append_right (by omega)] at hb
      have : i = n := by
        rcases Nat.eq_zero_or_pos (i - l.length) with h0 | h0
        · omega
        · rw [List.getElem?_eq_none (by simp; omega)] at hb; cases hb
      subst this
      rw [hl, Nat.sub_self] at hb
      simp at hb
      subst hb
      exact ha
theorem list2 {l : List Value} (h : l.length = 2) : ∃ c0 c1, l = [c0, c1] := by
  match l, h with
  | [c0, c1], _ => exact ⟨_, _, rfl⟩
theorem list3 {l : List Value} (h : l.length = 3) : ∃ c0 c1 c2, l = [c0, c1, c2] := by
  match l, h with
  | [c0, c1, c2], _ => exact ⟨_, _, _, rfl⟩
theorem list5 {l : List Value} (h : l.length = 5) : ∃ c0 c1 c2 c3 c4, l = [c0, c1, c2, c3, c4] := by
  match l, h with
  | [c0, c1, c2, c3, c4], _ => exact ⟨_, _, _, _, _, rfl⟩
theorem rdStep {n : Nat} {cs : List Value} {x : DataW H × List MemPlace} (h : DataW.trod enc Tryz.prog w base spare held n 46 cs = some x) : ∃ s : Stp, cs = srow s := by
  cases n with
  | zero => simp [DataW.trod] at h
  | succ n =>
  obtain ⟨hl, hf⟩ := rd_struct Tryz.underlying46 (cellsOf_of sz46) h
  obtain ⟨c0, c1, c2, rfl⟩ := list3 hl
  obtain ⟨y0, t0, _⟩ := hf 0 4 0 1 rfl (cellsOf_of sz4)
  obtain ⟨y1, t1, _⟩ := hf 1 9 1 1 rfl (cellsOf_of sz9)
  obtain ⟨y2, t2, _⟩ := hf 2 3 2 1 rfl (cellsOf_of sz3)
  simp only [List.drop_succ_cons, List.drop_zero, List.take_succ_cons, List.take_zero] at t0 t1 t2
  obtain ⟨b, e0⟩ := rd_bool Tryz.underlying4 t0
  obtain ⟨s, e1, _⟩ := rd_string Tryz.underlying9 t1
  obtain ⟨k, e2⟩ := rd_int Tryz.underlying3 t2
  simp only [List.cons.injEq, and_true] at e0 e1 e2
  subst e0 e1 e2
  exact ⟨⟨b, s, k⟩, rfl⟩
theorem rdPath {n : Nat} {cs : List Value} {x : DataW H × List MemPlace} (h : DataW.trod enc Tryz.prog w base spare held n 25 cs = some x) : ∃ s l, cs = [s] ∧ Pth w s l ∧ l.length ≤ uptoBulk x.1 := by
  cases n with
  | zero => simp [DataW.trod] at h
  | succ n =>
  obtain ⟨s, len, b, o, rfl, hs, hb, hel⟩ := rd_slice Tryz.underlying25 (cellsOf_of sz46) (by omega) h
  obtain ⟨l, hl, hp⟩ := list_of (p := fun i (u : Stp) => RowAt w b (o + i * 3) (srow u)) len fun i hi => by
    obtain ⟨r, y, hr, h1, h2, _⟩ := hel i hi
    obtain ⟨u, rfl⟩ := rdStep h2
    exact ⟨u, h1⟩
  subst hl
  exact ⟨s, l, rfl, ⟨b, o, hs, hp⟩, by omega⟩
theorem rdLss {n : Nat} {cs : List Value} {x : DataW H × List MemPlace} (h : DataW.trod enc Tryz.prog w base spare held n 22 cs = some x) : ∃ s l, cs = [s] ∧ Lsr w s l := by
  cases n with
  | zero => simp [DataW.trod] at h
  | succ n =>
  obtain ⟨s, len, b, o, rfl, hs, _, hel⟩ := rd_slice Tryz.underlying22 (cellsOf_of sz27) (by omega) h
  obtain ⟨l, hl, hp⟩ := list_of (p := fun i (u : Lss) => ∃ p, RowAt w b (o + i * 2) [.int .i64 u.kind, p] ∧ Pth w p u.path) len fun i hi => by
    obtain ⟨r, y, hr, h1, h2, _⟩ := hel i hi
    cases n with
    | zero => simp [DataW.trod] at h2
    | succ n =>
    obtain ⟨hl, hf⟩ := rd_struct Tryz.underlying27 (cellsOf_of sz27) h2
    obtain ⟨c0, c1, rfl⟩ := list2 hl
    obtain ⟨y0, t0, _⟩ := hf 0 3 0 1 rfl (cellsOf_of sz3)
    obtain ⟨y1, t1, _⟩ := hf 1 25 1 1 rfl (cellsOf_of sz25)
    simp only [List.drop_succ_cons, List.drop_zero, List.take_succ_cons, List.take_zero] at t0 t1
    obtain ⟨k, e0⟩ := rd_int Tryz.underlying3 t0
    obtain ⟨p, q, e1, hp, _⟩ := rdPath t1
    simp only [List.cons.injEq, and_true] at e0 e1
    subst e0 e1
    exact ⟨⟨k, q⟩, c1, h1, hp⟩
  subst hl
  exact ⟨s, l, rfl, b, o, hs, hp⟩
end
end Go.Proofs.YthlkmblljanfmaaGreatDoor
end
section
set_option linter.unusedVariables false
namespace Go.Proofs.YthlkmblljanfmaaGreatDoor
open Go Go.Dk Go.RowKit Go.Lib
set_option maxRecDepth 100000
theorem tab_reads {P : Program} {W : World} {name : String} {k : IntKind} {zs : List Int} {g : Nat} {t e : TypeId} {n : Nat}
    (hg : P.globalNamed name = some g) (hty : (P.globals[g]?).map (·.type) = some t) (ht : P.underlying t = some (.array n e)) (he : P.underlying e = some (.int k)) (hce : P.cellsOf e = 1) (hct : P.cellsOf t = n)
    (h : VarReads P W name (tabData k zs)) : TabIs P W name k zs := by
  obtain ⟨g', t', cs, fuel, p, hg', ht', hvar, hd⟩ := h
  obtain rfl := Option.some.inj (hg.symm.trans hg')
  obtain rfl := Option.some.inj (hty.symm.trans ht')
  unfold TabIs
  rw [hvar, ← cells_of_tab ht he hce hct hd]
theorem pow_eq : (Rows.laid_internal_strconv_uint64pow10 : DataW Unit) = tabData .u64 pow10Tab := by kernel_rfl
theorem bit_eq : (Rows.laid_math_bits_deBruijn64tab : DataW Unit) = tabData .u8 (deBruijn64tab.map fun n : Nat => (n : Int)) := by kernel_rfl
theorem tabs_of {W : World} (h2 : VarReads Tryz.prog W "math/bits.deBruijn64tab" Rows.laid_math_bits_deBruijn64tab) (h3 : VarReads Tryz.prog W "internal/strconv.uint64pow10" Rows.laid_internal_strconv_uint64pow10) : Tabs W := by
  rw [pow_eq] at h3
  rw [bit_eq] at h2
  have g2 : Tryz.prog.globalNamed "math/bits.deBruijn64tab" = some 3 := by kernel_rfl
  have ce5 : Tryz.prog.cellsOf 5 = 1 := by kernel_rfl
  have e2 := tab_reads g2 (t := 308) (by kernel_rfl) Tryz.underlying308 Tryz.underlying5 ce5 (by kernel_rfl) h2
  refine ⟨tab_reads (g := 0) (t := 255) (by kernel_rfl) (by kernel_rfl) Tryz.underlying255 Tryz.underlying218 (by kernel_rfl) (by kernel_rfl) h3, fun j hj => ?_⟩
  have h := e2.cell g2 j (by rw [List.length_map]; exact hj)
  rw [h]
  congr 2
  have hj' : j < deBruijn64tab.length := hj
  simp [List.getD, List.getElem?_map, List.getElem?_eq_getElem hj']
end Go.Proofs.YthlkmblljanfmaaGreatDoor
end
