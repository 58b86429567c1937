/-
  The blocks in which the contents of a value under construction lie.
-/
import Derived.Test.YtmkihcdcgkdilaaVe
import Derived.Test.YtmkihcdcgkdilaaVd
set_option linter.unusedVariables false
set_option linter.unusedSimpArgs false
namespace Go.Dk
open Go Go.RowKit

/-- new since w0, none of the listed blocks, not the slice's own -/
def Dn (w0 w : World) (ids : List Nat) (v : Value) (b : Nat) : Prop := Fr w0 w b ∧ b ∉ ids ∧ v.ownBlock ≠ some b
theorem Dn.lt {w0 w : World} {ids : List Nat} {v : Value} (b : Nat) (h : Dn w0 w ids v b) : b < w.heap.size := h.1.2
theorem Dn.fr {w0 w : World} {ids : List Nat} {v : Value} (b : Nat) (h : Dn w0 w ids v b) : Fr w0 w b := h.1
theorem Dn.step {w0 wk w' : World} {ids : List Nat} {v v' : Value} {m : Nat} (hs : wk.heap.size ≤ w'.heap.size) (hm : wk.heap.size ≤ m) (hn : ∀ q, v'.ownBlock = some q → v.ownBlock = some q ∨ m ≤ q) : ∀ b, Dn w0 wk ids v b → Dn w0 w' ids v' b := fun b h =>
  ⟨⟨h.1.1, Nat.lt_of_lt_of_le h.1.2 hs⟩, h.2.1, fun e => by
    rcases hn b e with h1 | h1
    · exact h.2.2 h1
    · have := h.1.2; omega⟩
theorem Dn.new {w0 wc wc' w' : World} {ids : List Nat} {v v' : Value} {m : Nat} (h0 : w0.heap.size ≤ wc.heap.size) (hs : wc'.heap.size ≤ w'.heap.size) (hi : ∀ i ∈ ids, i < wc.heap.size) (hv : ∀ q, v.ownBlock = some q → q < wc.heap.size) (hm : wc'.heap.size ≤ m) (hn : ∀ q, v'.ownBlock = some q → v.ownBlock = some q ∨ m ≤ q) : ∀ b, Fr wc wc' b → Dn w0 w' ids v' b := fun b h =>
  ⟨⟨Nat.le_trans h0 h.1, Nat.lt_of_lt_of_le h.2 hs⟩, fun e => by have := hi b e; have := h.1; omega, fun e => by
    rcases hn b e with h1 | h1
    · have := hv b h1; have := h.1; omega
    · have := h.2; omega⟩

theorem Made_lt {B e k n : Nat} {w : World} {v : Value} {xs : List Value} (row : w.ownsRow B e k v n xs) : ∀ q, v.ownBlock = some q → B ≤ q ∧ q < w.heap.size := fun q hq => row.lt q hq
/-- bytes that the call has made -/
theorem byt_of_row {B : Nat} {w : World} {v : Value} {n e : Nat} {l : List UInt8} (row : w.ownsRow B e 1 v n (l.map byteVal)) (hn : n = l.length) : RepB (fun b => v.ownBlock = some b) w v l := by
  subst hn
  rcases row.2 with ⟨rfl, h0⟩ | ⟨g, cap, cur, rfl, hb, hg, hle, _, hcs, htake⟩
  · have : l = [] := List.eq_nil_of_length_eq_zero h0
    subst this
    exact ⟨0, 0, .inl ⟨rfl, rfl⟩, fun j x hj => by simp at hj⟩
  · refine ⟨g, 0, .inr ⟨_, cap, rfl, hle, fun _ => ⟨rfl, rfl⟩⟩, ?_⟩
    intro j x hj
    rw [cell_of_row w g (0 + j) cur _ _ hg]
    rw [← htake] at hj
    rw [List.getElem?_take] at hj
    split at hj
    · simpa using hj
    · cases hj

/-- a value that a call has made: new blocks; its fields lie in a slice of its own -/
def Made (w0 w' : World) (v : V) (x : Value) : Prop := ∃ bs ls fs rs, x = .agg (vrow v.sc bs ls fs).toArray ∧ RepB (Fr w0 w') w' bs v.bytes ∧ RepL (Fr w0 w') w' ls v.list ∧
  w'.ownsRow w0.heap.size 77 14 fs v.fields.length rs.flatten ∧ RowsF (fun b => Fr w0 w' b ∧ fs.ownBlock ≠ some b) w' v.fields rs
theorem Made.rep {w0 w' : World} {v : V} {x : Value} (h : Made w0 w' v x) : ∃ r, x = .agg r.toArray ∧ RepV (Fr w0 w') w' v r := by
  obtain ⟨bs, ls, fs, rs, rfl, h1, h2, h3, h4⟩ := h
  refine ⟨_, rfl, RepV.mk h1 h2 ?_⟩
  have := fld_of_row h3 rfl h4 (fun _ _ => rfl)
  refine RepF.mono ?_ (fun _ _ => rfl) this
  rintro b (hb | hb)
  · exact hb.1
  · exact Made_lt h3 b hb

section
variable {P : Program} {ops : Array Oper} {Q : Exit → Act → World → Prop} {rest : List Oper} {o : Oper} {n : Nat} {f : Nat → Value} {w w0 : World} {L : List (Nat × Obj)} {R : List Row}
theorem s_appendH {s x : Operand} {t e size bytes : Nat} {v : Value} {k m c d : Nat} {ad : Addr} {xs news : List Value} (cx : Cxr w0 w L (⟨e, size, v, k, xs⟩ :: R)) (ei : EI P e size bytes) (ht : P.underlying t = some (.slice e))
    (hg : o.guard = none) (hd : o.dst = some d) (ho : o.op = .call { callee := .builtin .append, args := #[s, x], argTypes := #[t, t] }) (hs : ev n f s = v) (hx : ev n f x = .slice (some ad) m c)
    (hr : ∀ j u, news[j]? = some u → w.cell? (ad.add j) = some u) (hl : news.length = m * size) (h1 : news.all (·.oneCell') = true) (hb : (k + m) * bytes ≤ 140737488355328)
    (h : ∀ v' w', Cxr w0 w' L (⟨e, size, v', k + m, xs ++ news⟩ :: R) → w.grownBy w' v.ownBlock → (∀ q, v'.ownBlock = some q → v.ownBlock = some q ∨ w.heap.size ≤ q) → wpList P ops Q rest (St n (upd f d v')) w') : wpList P ops Q (o :: rest) (St n f) w := by
  have hrow0 := cx.rows _ (List.mem_cons_self ..)
  have hoff0 := cx.off _ (List.mem_cons_self ..)
  have hpw0 := (List.pairwise_cons.1 cx.pw).1
  simp only at hrow0 hoff0
  obtain ⟨v', w', hrun, hrow, hgr, hnew⟩ := run_append_new (P := P) (ty := o.type) (c := c) (ad := ad) ei ht hrow0 hl hr (by simpa using h1) hb cx.ext.size
  have hcx0 : Cxr w0 w' L R := by
    refine ⟨cx.ext.grown hgr cx.ext.size (fun k hk => (hrow0.lt k hk).1), ?_, cx.lo, cx.nd, ?_, fun r hr => cx.off r (List.mem_cons_of_mem _ hr), (List.pairwise_cons.1 cx.pw).2⟩
    · intro p hp'
      rw [hgr.block p.1 (cx.lt p hp') (fun e => hoff0 p.1 e.symm (List.mem_map.2 ⟨p, hp', rfl⟩))]
      exact cx.own p hp'
    · intro r hr
      refine cx.row_keep (List.mem_cons_of_mem _ hr) hgr.os hgr.tape hgr.output hgr.size fun q hq hv => hgr.block q hq fun e => ?_
      exact hpw0 r hr q e.symm hv
  refine s_new (w' := w') (v := v') hg hd ?_ (h v' w' (hcx0.addRow _ hrow ?_ ?_) hgr hnew)
  · unfold execOp; rw [ho]
    simp [resolve, invoke, builtin, hs, hx, hrun, Result.andThen]
  · intro q hq hm
    obtain ⟨p, hp', rfl⟩ := List.mem_map.1 hm
    rcases hnew _ hq with h2 | h2
    · exact hoff0 _ h2 (List.mem_map.2 ⟨p, hp', rfl⟩)
    · have := cx.lt p hp'; omega
  · intro r hr q hq hq'
    rcases hnew _ hq with h2 | h2
    · exact hpw0 r hr q h2 hq'
    · have := ((cx.rows r (List.mem_cons_of_mem _ hr)).lt _ hq').2; omega
end
theorem Cxr.head {w0 w : World} {L : List (Nat × Obj)} {r : Row} {R : List Row} (h : Cxr w0 w L (r :: R)) : w.ownsRow w0.heap.size r.e r.size r.v r.n r.xs := h.rows r (List.mem_cons_self ..)
theorem Cxr.lts {w0 w : World} {L : List (Nat × Obj)} {R : List Row} (h : Cxr w0 w L R) : ∀ i ∈ L.map (·.1), w0.heap.size ≤ i ∧ i < w.heap.size := by
  intro i hi
  obtain ⟨p, hp, rfl⟩ := List.mem_map.1 hi
  exact ⟨h.lo p hp, h.lt p hp⟩
/-- the cells behind a slice value -/
theorem repB_cells {A : Nat → Prop} {w : World} {s : Value} {l : List UInt8} (h : RepB A w s l) : ∃ a c, s = .slice a l.length c ∧ ∀ ad, a = some ad → ∀ j u, (l.map byteVal)[j]? = some u → w.cell? (ad.add j) = some u := by
  obtain ⟨a, c, b, o, rfl, ha, hr⟩ := h.form
  refine ⟨a, c, rfl, fun ad had j u hu => ?_⟩
  have h0 : 0 < l.length := by have := (List.getElem?_eq_some_iff.1 hu).1; simp at this; omega
  have := ha h0
  rw [had] at this
  obtain rfl := Option.some.inj this
  rw [add_addr]
  exact hr j u hu

theorem Kp.dnId {w0 wk w w' : World} {ids : List Nat} {v : Value} {g : Nat} (h : Kp (Dn w0 wk ids v) wk w) (hg : w.grownBy w' (some g)) (hi : g ∈ ids) : Kp (Dn w0 wk ids v) wk w' :=
  h.grown hg fun b hb e => hb.2.1 (by simp at e; subst e; exact hi)
theorem Kp.dnOwn {w0 wk w w' : World} {ids : List Nat} {v : Value} (h : Kp (Dn w0 wk ids v) wk w) (hg : w.grownBy w' v.ownBlock) : Kp (Dn w0 wk ids v) wk w' :=
  h.grown hg fun b hb => hb.2.2
theorem Kp.dn (w0 w : World) (ids : List Nat) (v : Value) : Kp (Dn w0 w ids v) w w := Kp.refl Dn.lt
theorem Kp.fr {wc w : World} (h : Below wc.heap.size wc w) : Kp (Fr wc w) w w := Kp.refl fun b hb => hb.2
theorem Kp.frOwn {wc wc' w w' : World} {o : Option Nat} (h : Kp (Fr wc wc') wc' w) (hg : w.grownBy w' o) (hv : ∀ q, o = some q → q < wc.heap.size) : Kp (Fr wc wc') wc' w' :=
  h.grown hg fun b hb e => by have := hv b e; have := hb.1; omega
/-- a finished list of the call's own joins the contents -/
theorem Dn.join {w0 w : World} {L : List (Nat × Obj)} {R : List Row} {r : Row} {ids : List Nat} (cx : Cxr w0 w L (r :: R)) (hi : ∀ i ∈ ids, i ∈ L.map (·.1)) : ∀ b, Dn w0 w ids r.v b ∨ r.v.ownBlock = some b → Dn w0 w ids (.slice none 0 0) b := by
  rintro b (h | h)
  · exact ⟨h.1, h.2.1, by simp [Value.ownBlock]⟩
  · exact ⟨Made_lt cx.head b h, fun hm => cx.off r (List.mem_cons_self ..) b h (hi b hm), by simp [Value.ownBlock]⟩
theorem Dn.nil {w0 w : World} {ids : List Nat} {v : Value} : ∀ b, Dn w0 w ids v b → Dn w0 w ids (.slice none 0 0) b := fun b h => ⟨h.1, h.2.1, by simp [Value.ownBlock]⟩
theorem RepL.one {A : Nat → Prop} {w : World} {s : Value} {l : List V} (h : RepL A w s l) : s.oneCell' = true := by
  obtain ⟨_, _, hs, _⟩ := h
  obtain ⟨_, _, rfl, _⟩ := hs.form
  rfl
theorem vrow_one {s : Sc} {bs ls fs : Value} (h1 : bs.oneCell' = true) (h2 : ls.oneCell' = true) (h3 : fs.oneCell' = true) : (vrow s bs ls fs).all (·.oneCell') = true := by
  simp only [vrow, List.all_cons, List.all_nil, h1, h2, h3]
  rfl
theorem own_one {B : Nat} {w : World} {v : Value} {n e k : Nat} {xs : List Value} (row : w.ownsRow B e k v n xs) : v.oneCell' = true := by
  obtain ⟨_, _, rfl, _⟩ := own_row row
  rfl
end Go.Dk
namespace Go.Proofs.Ytmkihcdcgkdilaa
open Go Go.Dk Go.RowKit
theorem bd77 (k : ByteArray) (s : Sc) (bs ls fs : Value) (w : World) : (Instr.build 77 ([(0, .string k), (1, .agg (vrow s bs ls fs).toArray)] : List (Nat × Value)).toArray).run Try.prog w = .ok (.agg (.string k :: vrow s bs ls fs).toArray) w := by
  unfold vrow
  go_simp
theorem bd33 (w : World) : (Instr.build 33 ([] : List (Nat × Value)).toArray).run Try.prog w = .ok (.agg (vrow ⟨0, false, false, ByteArray.empty, 0, 0, 0, 0, 0, ByteArray.empty⟩ (.slice none 0 0) (.slice none 0 0) (.slice none 0 0)).toArray) w := by
  unfold vrow
  go_simp
  rfl
theorem bd33m (w : World) : (Instr.build 33 ([(0, .int .i64 7)] : List (Nat × Value)).toArray).run Try.prog w = .ok (.agg (vrow ⟨7, false, false, ByteArray.empty, 0, 0, 0, 0, 0, ByteArray.empty⟩ (.slice none 0 0) (.slice none 0 0) (.slice none 0 0)).toArray) w := by
  unfold vrow
  go_simp
  rfl
theorem bd33f (a : Option Addr) (n c : Nat) (w : World) : (Instr.build 33 ([(0, .int .i64 7), (7, .slice a n c)] : List (Nat × Value)).toArray).run Try.prog w = .ok (.agg (vrow ⟨7, false, false, ByteArray.empty, 0, 0, 0, 0, 0, ByteArray.empty⟩ (.slice none 0 0) (.slice none 0 0) (.slice a n c)).toArray) w := by
  unfold vrow
  go_simp
  rfl
end Go.Proofs.Ytmkihcdcgkdilaa
