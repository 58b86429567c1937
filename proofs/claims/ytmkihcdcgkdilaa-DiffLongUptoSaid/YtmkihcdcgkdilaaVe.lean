/-
  Values that a call builds: rows of the call's own whose contents lie in other blocks; what stays while they grow.
-/
import Derived.Test.YtmkihcdcgkdilaaOr
import Derived.Test.YtmkihcdcgkdilaaVb
import Derived.Test.YtmkihcdcgkdilaaVc
set_option linter.unusedVariables false
set_option linter.unusedSimpArgs false
namespace Go.Dk
open Go Go.RowKit

/-- the blocks made between two worlds -/
def Fr (w w' : World) (b : Nat) : Prop := w.heap.size ≤ b ∧ b < w'.heap.size

/-- the blocks of C have stayed -/
structure Kp (C : Nat → Prop) (wk w : World) : Prop where
  lt : ∀ b, C b → b < wk.heap.size
  sz : wk.heap.size ≤ w.heap.size
  kp : Keeps C wk w
theorem Kp.refl {C : Nat → Prop} {w : World} (h : ∀ b, C b → b < w.heap.size) : Kp C w w := ⟨h, Nat.le_refl _, fun _ _ => rfl⟩
theorem Kp.below {C : Nat → Prop} {wk w w' : World} (h : Kp C wk w) (hb : Below w.heap.size w w') : Kp C wk w' :=
  ⟨h.lt, Nat.le_trans h.sz hb.size, fun b hc => (hb.block b (Nat.lt_of_lt_of_le (h.lt b hc) h.sz)).trans (h.kp b hc)⟩
theorem Kp.grown {C : Nat → Prop} {wk w w' : World} {o : Option Nat} (h : Kp C wk w) (hg : w.grownBy w' o) (ho : ∀ b, C b → o ≠ some b) : Kp C wk w' :=
  ⟨h.lt, Nat.le_trans h.sz hg.size, fun b hc => (hg.block b (Nat.lt_of_lt_of_le (h.lt b hc) h.sz) (fun e => ho b hc e.symm)).trans (h.kp b hc)⟩
/-- a block that came later -/
theorem Kp.later {C : Nat → Prop} {wk w w' : World} {g : Nat} (h : Kp C wk w) (hg : w.grownBy w' (some g)) (ho : wk.heap.size ≤ g) : Kp C wk w' :=
  h.grown hg fun b hb e => by have := h.lt b hb; simp at e; omega
theorem Kp.sub {C C' : Nat → Prop} {wk w : World} (h : Kp C wk w) (hs : ∀ b, C' b → C b) : Kp C' wk w := ⟨fun b hb => h.lt b (hs b hb), h.sz, fun b hb => h.kp b (hs b hb)⟩

/-- rows of cells that hold fields, in order -/
def RowsF (A : Nat → Prop) (w : World) : List (ByteArray × V) → List (List Value) → Prop
  | [], [] => True
  | kv :: fs, r :: rs => (∃ l, r = .string kv.1 :: l ∧ RepV A w kv.2 l) ∧ RowsF A w fs rs
  | _, _ => False
theorem RowsF.snoc {A : Nat → Prop} {w : World} {k : ByteArray} {v : V} {l : List Value} : ∀ (fs : List (ByteArray × V)) (rs : List (List Value)), RowsF A w fs rs → RepV A w v l → RowsF A w (fs ++ [(k, v)]) (rs ++ [.string k :: l])
  | [], [], _, h => ⟨⟨l, rfl, h⟩, trivial⟩
  | _ :: fs, _ :: rs, h, hv => ⟨h.1, RowsF.snoc fs rs h.2 hv⟩
  | [], _ :: _, h, _ => h.elim
  | _ :: _, [], h, _ => h.elim
theorem RowsF.mono {A A' : Nat → Prop} {w w' : World} (hA : ∀ b, A b → A' b) (hk : Keeps A w w') : ∀ (fs : List (ByteArray × V)) (rs : List (List Value)), RowsF A w fs rs → RowsF A' w' fs rs
  | [], [], _ => trivial
  | _ :: fs, _ :: rs, ⟨⟨l, e, h⟩, hr⟩ => ⟨⟨l, e, RepV.mono hA hk _ _ h⟩, RowsF.mono hA hk fs rs hr⟩
  | [], _ :: _, h => h.elim
  | _ :: _, [], h => h.elim
theorem RepV.len {A : Nat → Prop} {w : World} {v : V} {l : List Value} (h : RepV A w v l) : l.length = 13 := by obtain ⟨bs, ls, fs, rfl, _⟩ := h.open; rfl
theorem RepV.one {A : Nat → Prop} {w : World} {v : V} {l : List Value} (h : RepV A w v l) : l.all (·.oneCell') = true := by
  obtain ⟨bs, ls, fs, rfl, ⟨_, _, h5, _⟩, ⟨_, _, h6, _⟩, ⟨_, _, h7, _⟩⟩ := RepV.open h
  obtain ⟨_, _, rfl, _⟩ := h5.form
  obtain ⟨_, _, rfl, _⟩ := h6.form
  obtain ⟨_, _, rfl, _⟩ := h7.form
  rfl
theorem RowsF.length {A : Nat → Prop} {w : World} : ∀ (fs : List (ByteArray × V)) (rs : List (List Value)), RowsF A w fs rs → rs.flatten.length = fs.length * 14 ∧ rs.length = fs.length
  | [], [], _ => ⟨rfl, rfl⟩
  | kv :: fs, r :: rs, ⟨⟨l, e, h⟩, hr⟩ => by
    obtain ⟨h1, h2⟩ := RowsF.length fs rs hr
    subst e
    refine ⟨?_, by simp [h2]⟩
    rw [List.flatten_cons, List.length_append, h1, List.length_cons, h.len, List.length_cons]; omega
  | [], _ :: _, h => h.elim
  | _ :: _, [], h => h.elim
theorem RowsF.reps {A A' : Nat → Prop} {w w' : World} {b : Nat} (hA : ∀ b, A b → A' b) (hk : Keeps A w w') : ∀ (fs : List (ByteArray × V)) (rs : List (List Value)) (o : Nat), RowsF A w fs rs → RowAt w' b o rs.flatten → RepFs A' w' b o fs
  | [], [], _, _, _ => trivial
  | (k, v) :: fs, r :: rs, o, ⟨⟨l, e, h⟩, hrs⟩, hr => by
    subst e
    dsimp only at hr h
    have hlen : (Value.string k :: l).length = 14 := by rw [List.length_cons, RepV.len h]
    have h1 : RowAt w' b o (Value.string k :: l) := fun j x hj => hr j x (by
      rw [List.flatten_cons, List.getElem?_append_left (List.getElem?_eq_some_iff.1 hj).1]; exact hj)
    have h2 : RowAt w' b (o + 14) rs.flatten := fun j x hj => by
      have := hr (14 + j) x (by rw [List.flatten_cons, List.getElem?_append_right (by omega), hlen, Nat.add_sub_cancel_left]; exact hj)
      rwa [← Nat.add_assoc] at this
    simp only [RepFs, RepP]
    exact ⟨⟨l, h1, RepV.mono hA hk v l h⟩, RowsF.reps hA hk fs rs (o + 14) hrs h2⟩
  | [], _ :: _, _, h, _ => h.elim
  | _ :: _, [], _, h, _ => h.elim
theorem RepFs.rows {A : Nat → Prop} {w : World} {b : Nat} : ∀ (fs : List (ByteArray × V)) (o : Nat), RepFs A w b o fs → ∃ rs, RowsF A w fs rs ∧ RowAt w b o rs.flatten ∧ rs.flatten.length = fs.length * 14 ∧ rs.flatten.all (·.oneCell') = true
  | [], _, _ => ⟨[], trivial, fun j x hj => by simp at hj, rfl, rfl⟩
  | (k, v) :: fs, o, h => by
    simp only [RepFs, RepP] at h
    obtain ⟨⟨l, hr, hv⟩, hs⟩ := h
    obtain ⟨rs, h1, h2, h3, h4⟩ := RepFs.rows fs (o + 14) hs
    have hlen : (Value.string k :: l).length = 14 := by rw [List.length_cons, RepV.len hv]
    refine ⟨(.string k :: l) :: rs, ⟨⟨l, rfl, hv⟩, h1⟩, ?_, ?_, ?_⟩
    · intro j x hj
      rw [List.flatten_cons] at hj
      rcases Nat.lt_or_ge j (Value.string k :: l).length with hlt | hge
      · rw [List.getElem?_append_left hlt] at hj; exact hr j x hj
      · rw [List.getElem?_append_right hge] at hj
        have := h2 (j - (Value.string k :: l).length) x hj
        rwa [show o + 14 + (j - (Value.string k :: l).length) = o + j by omega] at this
    · rw [List.flatten_cons, List.length_append, hlen, h3, List.length_cons]; omega
    · rw [List.flatten_cons, List.all_append, h4, List.all_cons, hv.one]; rfl
/-- a slice of the call's own that holds fields reads as their list; it lies in its own block and in those of its contents -/
theorem fld_of_row {B : Nat} {w0 w : World} {v : Value} {n : Nat} {e : Nat} {vs : List (ByteArray × V)} {rs : List (List Value)} {A : Nat → Prop} (row : w.ownsRow B e 14 v n rs.flatten) (hn : n = vs.length) (hr : RowsF A w0 vs rs) (hk : Keeps A w0 w) : RepF (fun b => A b ∨ v.ownBlock = some b) w v vs := by
  subst hn
  rcases row.2 with ⟨rfl, h0⟩ | ⟨g, cap, cur, rfl, hb, hg, hle, _, hcs, htake⟩
  · have : vs = [] := List.eq_nil_of_length_eq_zero h0
    subst this
    exact ⟨0, 0, .inl ⟨rfl, rfl⟩, trivial⟩
  · have hrow : RowAt w g 0 rs.flatten := by
      intro j x hj
      rw [cell_of_row w g (0 + j) cur _ _ hg]
      rw [← htake] at hj
      rw [List.getElem?_take] at hj
      split at hj
      · simpa using hj
      · cases hj
    exact ⟨g, 0, .inr ⟨_, cap, rfl, hle, fun _ => ⟨rfl, .inr rfl⟩⟩, RowsF.reps (fun _ h => .inl h) hk vs rs 0 hr hrow⟩
theorem lstA_of_row {B : Nat} {w0 w : World} {v : Value} {n : Nat} {e : Nat} {vs : List V} {rs : List (List Value)} {A : Nat → Prop} (row : w.ownsRow B e 13 v n rs.flatten) (hn : n = vs.length) (hr : RowsV A w0 vs rs) (hk : Keeps A w0 w) : RepL (fun b => A b ∨ v.ownBlock = some b) w v vs := by
  subst hn
  rcases row.2 with ⟨rfl, h0⟩ | ⟨g, cap, cur, rfl, hb, hg, hle, _, hcs, htake⟩
  · have : vs = [] := List.eq_nil_of_length_eq_zero h0
    subst this
    exact ⟨0, 0, .inl ⟨rfl, rfl⟩, trivial⟩
  · have hrow : RowAt w g 0 rs.flatten := by
      intro j x hj
      rw [cell_of_row w g (0 + j) cur _ _ hg]
      rw [← htake] at hj
      rw [List.getElem?_take] at hj
      split at hj
      · simpa using hj
      · cases hj
    exact ⟨g, 0, .inr ⟨_, cap, rfl, hle, fun _ => ⟨rfl, .inr rfl⟩⟩, (RowsV.reps (fun _ h => .inl h) hk vs rs 0 hr hrow).1⟩
/-- the cells of a slice of the call's own -/
theorem own_row {B : Nat} {w : World} {v : Value} {n e k : Nat} {xs : List Value} (row : w.ownsRow B e k v n xs) : ∃ a c, v = .slice a n c ∧ (0 < n → ∃ g, a = some ⟨g, 0, none⟩ ∧ RowAt w g 0 xs) := by
  rcases row.2 with ⟨rfl, h0⟩ | ⟨g, cap, cur, rfl, hb, hg, hle, _, hcs, htake⟩
  · exact ⟨none, 0, by rw [h0], fun h => by omega⟩
  · refine ⟨_, cap, rfl, fun _ => ⟨g, rfl, ?_⟩⟩
    intro j x hj
    rw [cell_of_row w g (0 + j) cur _ _ hg]
    rw [← htake] at hj
    rw [List.getElem?_take] at hj
    split at hj
    · simpa using hj
    · cases hj

section
variable {P : Program} {ops : Array Oper} {Q : Exit → Act → World → Prop} {rest : List Oper} {o : Oper} {n : Nat} {f : Nat → Value} {w w0 : World} {L : List (Nat × Obj)} {R : List Row}

theorem Ctx.sub0 (h : Cxr w0 w L R) : Ctx w0 w [] := ⟨h.ext, by simp, by simp, by simp, by simp, by simp, by simp⟩
theorem s_storeAllG {t T : TypeId} {x y : Operand} {b : Nat} {l cs : List Value} (cx : Cxr w0 w L R) (i : Nat) (hg : o.guard = none) (hd : o.dst = none) (ho : o.op = .store t x y) (hx : ev n f x = .pointer (some ⟨b, 0, none⟩)) (hy : ev n f y = .agg l.toArray)
    (hi : L[i]? = some (b, .cells cs.toArray T)) (hs : (P.info? t).map (·.size) = some l.length) (hlen : cs.length = l.length) (h1 : l.all (·.oneCell') = true)
    (h : ∀ w', Cxr w0 w' (L.set i (b, .cells l.toArray T)) R → w.grownBy w' (some b) → wpList P ops Q rest (St n f) w') : wpList P ops Q (o :: rest) (St n f) w := by
  have hb := cx.at i hi
  refine s_put (w' := w.setRow b l.toArray) hg hd ?_ (h _ (setRow_ctx cx i hi) ⟨rfl, rfl, rfl, by simp, fun k _ hne => setRow_other w b k _ fun e => hne (by rw [e])⟩)
  have := run_storeVar_row (P := P) w b T t cs.toArray l.toArray hb (by simpa using hs) (by simpa using hlen) (by simpa using h1)
  unfold execOp; rw [ho]
  simp [hx, hy, Instr.storeAt, Instr.sureAddr, this]
theorem s_store1G {t T : TypeId} {x y : Operand} {b j : Nat} {cs : List Value} {v : Value} (cx : Cxr w0 w L R) (i : Nat) (hg : o.guard = none) (hd : o.dst = none) (ho : o.op = .store t x y) (hx : ev n f x = .pointer (some ⟨b, j, none⟩)) (hy : ev n f y = v) (h1 : v.oneCell' = true)
    (hi : L[i]? = some (b, .cells cs.toArray T)) (hj : Nat.blt j cs.length = true) (hs : (P.info? t).map (·.size) = some 1)
    (h : ∀ w', Cxr w0 w' (L.set i (b, .cells (cs.set j v).toArray T)) R → w.grownBy w' (some b) → wpList P ops Q rest (St n f) w') : wpList P ops Q (o :: rest) (St n f) w := by
  have hb := cx.at i hi
  have hj' : j < cs.length := by simpa [blt_iff] using hj
  have hc : v.cells = #[v] := by cases v <;> first | rfl | simp [Value.oneCell'] at h1
  have hcell : w.cell? ⟨b, j, none⟩ = some cs[j] := by rw [cell_of_row w b j _ T _ hb]; simp [hj']
  have hfr : w.frozen? ⟨b, j, none⟩ = false := frozen_of_row w b j _ T hb
  refine s_put (w' := w.setCell ⟨b, j, none⟩ v) hg hd ?_ (h _ ?_ ⟨rfl, rfl, rfl, by simp, fun k _ hne => Below.heap_setCell w _ v k fun e => hne (by rw [e])⟩)
  · unfold execOp; rw [ho]
    simp [hx, hy, Instr.storeAt, Instr.sureAddr, storeVar, run_size (w := w) hs, hc, storeCells, run_store P w _ v _ h1, add_addr, hcell, hfr]
  · refine cx.turn i hi rfl rfl rfl (by simp) ?_ fun k _ hne => Below.heap_setCell w _ v k hne
    rw [heap_setCell_same w b j _ T v hb]
    simp

theorem s_appendG {s x : Operand} {t e size bytes : Nat} {v : Value} {k m c b off d : Nat} {xs news : List Value} (cx : Cxr w0 w L (⟨e, size, v, k, xs⟩ :: R)) (ei : EI P e size bytes) (ht : P.underlying t = some (.slice e))
    (hg : o.guard = none) (hd : o.dst = some d) (ho : o.op = .call { callee := .builtin .append, args := #[s, x], argTypes := #[t, t] }) (hs : ev n f s = v) (hx : ev n f x = .slice (some ⟨b, off, none⟩) m c)
    (hr : RowAt w b off news) (hl : news.length = m * size) (h1 : news.all (·.oneCell') = true) (hb : (k + m) * bytes ≤ 140737488355328)
    (h : ∀ v' w', Cxr w0 w' L (⟨e, size, v', k + m, xs ++ news⟩ :: R) → w.grownBy w' v.ownBlock → (∀ q, v'.ownBlock = some q → v.ownBlock = some q ∨ w.heap.size ≤ q) → wpList P ops Q rest (St n (upd f d v')) w') : wpList P ops Q (o :: rest) (St n f) w := by
  have hrow0 := cx.rows _ (List.mem_cons_self ..)
  have hoff0 := cx.off _ (List.mem_cons_self ..)
  have hpw0 := (List.pairwise_cons.1 cx.pw).1
  simp only at hrow0 hoff0
  obtain ⟨v', w', hrun, hrow, hgr, hnew⟩ := run_append_new (P := P) (ty := o.type) (c := c) (ad := ⟨b, off, none⟩) ei ht hrow0 hl (fun j u hj => by rw [add_addr]; exact hr j u hj) (by simpa using h1) hb cx.ext.size
  have hcx0 : Cxr w0 w' L R := by
    refine ⟨cx.ext.grown hgr cx.ext.size (fun k hk => (hrow0.lt k hk).1), ?_, cx.lo, cx.nd, ?_, fun r hr => cx.off r (List.mem_cons_of_mem _ hr), (List.pairwise_cons.1 cx.pw).2⟩
    · intro p hp'
      rw [hgr.block p.1 (cx.lt p hp') (fun e => hoff0 p.1 e.symm (List.mem_map.2 ⟨p, hp', rfl⟩))]
      exact cx.own p hp'
    · intro r hr
      refine cx.row_keep (List.mem_cons_of_mem _ hr) hgr.os hgr.tape hgr.output hgr.size fun q hq hv => hgr.block q hq fun e => ?_
      exact hpw0 r hr q e.symm hv
  refine s_new (w' := w') (v := v') hg hd ?_ (h v' w' (hcx0.addRow _ hrow ?_ ?_) hgr hnew)
  · unfold execOp; rw [ho]
    simp [resolve, invoke, builtin, hs, hx, hrun, Result.andThen]
  · intro q hq hm
    obtain ⟨p, hp', rfl⟩ := List.mem_map.1 hm
    rcases hnew _ hq with h2 | h2
    · exact hoff0 _ h2 (List.mem_map.2 ⟨p, hp', rfl⟩)
    · have := cx.lt p hp'; omega
  · intro r hr q hq hq'
    rcases hnew _ hq with h2 | h2
    · exact hpw0 r hr q h2 hq'
    · have := ((cx.rows r (List.mem_cons_of_mem _ hr)).lt _ hq').2; omega

/-- cells of a slice of the call's own are written -/
theorem s_storeRow {t : TypeId} {x y : Operand} {e size k cap g j : Nat} {xs l : List Value} (cx : Cxr w0 w L (⟨e, size, .slice (some ⟨g, 0, none⟩) k cap, k, xs⟩ :: R)) (hg : o.guard = none) (hd : o.dst = none) (ho : o.op = .store t x y) (hx : ev n f x = .pointer (some ⟨g, j, none⟩)) (hy : ev n f y = .agg l.toArray)
    (hs : (P.info? t).map (·.size) = some l.length) (hj : j + l.length ≤ k * size) (h1 : l.all (·.oneCell') = true)
    (h : ∀ w', Cxr w0 w' L (⟨e, size, .slice (some ⟨g, 0, none⟩) k cap, k, xs.take j ++ l ++ xs.drop (j + l.length)⟩ :: R) → w.grownBy w' (some g) → w'.heap.size = w.heap.size → wpList P ops Q rest (St n f) w') : wpList P ops Q (o :: rest) (St n f) w := by
  have hrow0 := cx.rows _ (List.mem_cons_self ..)
  have hoff0 := cx.off _ (List.mem_cons_self ..)
  have hpw0 := (List.pairwise_cons.1 cx.pw).1
  simp only at hrow0 hoff0 hpw0
  rcases hrow0.2 with ⟨h0, _⟩ | ⟨g', cap', cur, he, hbg, hgc, hkc, hcm, hcs, htake⟩
  · cases h0
  simp only [Value.slice.injEq, Option.some.injEq, Addr.mk.injEq, and_true, true_and] at he
  obtain ⟨rfl, rfl⟩ := he
  have hle : k * size ≤ cap * size := Nat.mul_le_mul_right _ hkc
  have hrun := run_storeCells_at P g j e l 0 cur w hgc (by rw [hcs]; omega) (fun v hv => List.all_eq_true.1 h1 v hv)
  simp only [Nat.add_zero] at hrun
  refine s_put (w' := w.setRow g (cur.toList.take j ++ l ++ cur.toList.drop (j + l.length)).toArray) hg hd ?_ ?_
  · unfold execOp; rw [ho]
    cases hq : P.info? t with
    | none => simp [hq] at hs
    | some i =>
      have hs' : l.length = i.size := by simp [hq] at hs; omega
      simp [hx, hy, Instr.storeAt, Instr.sureAddr, storeVar, sizeOf, typeInfo, hq, Value.cells, hs', hrun]
  · have hgr : w.grownBy (w.setRow g (cur.toList.take j ++ l ++ cur.toList.drop (j + l.length)).toArray) (some g) := ⟨rfl, rfl, rfl, by simp, fun k _ hne => setRow_other w g k _ fun e => hne (by rw [e])⟩
    refine h _ ?_ hgr (by simp)
    have hcx0 : Cxr w0 (w.setRow g (cur.toList.take j ++ l ++ cur.toList.drop (j + l.length)).toArray) L R := by
      refine ⟨cx.ext.grown hgr cx.ext.size (fun k hk => by simp at hk; omega), ?_, cx.lo, cx.nd, ?_, fun r hr => cx.off r (List.mem_cons_of_mem _ hr), (List.pairwise_cons.1 cx.pw).2⟩
      · intro p hp'
        rw [hgr.block p.1 (cx.lt p hp') (fun e => hoff0 p.1 (by rw [e]; rfl) (List.mem_map.2 ⟨p, hp', rfl⟩))]
        exact cx.own p hp'
      · intro r hr
        refine cx.row_keep (List.mem_cons_of_mem _ hr) hgr.os hgr.tape hgr.output hgr.size fun q hq hv => hgr.block q hq fun e => ?_
        exact hpw0 r hr q (by rw [e]; rfl) hv
    refine hcx0.addRow _ ⟨?_, .inr ⟨g, cap, _, rfl, hbg, setRow_heap w g cur _ _ _ hgc, hkc, hcm, ?_, ?_⟩⟩ hoff0 hpw0
    · have := hrow0.1
      simp only [List.length_append, List.length_take, List.length_drop]
      omega
    · simp only [List.size_toArray, List.length_append, List.length_take, List.length_drop, Array.length_toList]
      omega
    · rw [← htake]
      have hl : cur.toList.length = cap * size := by simpa using hcs
      generalize cur.toList = c at hl
      apply List.ext_getElem?
      intro i
      simp only [List.getElem?_take, List.getElem?_append, List.length_take, List.getElem?_drop, List.length_append]
      have e1 : min j c.length = j := by omega
      have e2 : min j (min (k * size) c.length) = j := by omega
      rw [e1, e2]
      by_cases hi : i < k * size
      · rw [if_pos hi]
        by_cases h2 : i < j + l.length
        · rw [if_pos h2, if_pos h2]
          by_cases h3 : i < j
          · rw [if_pos h3, if_pos h3, if_pos h3, if_pos h3, if_pos hi]
          · rw [if_neg h3, if_neg h3]
        · rw [if_neg h2, if_neg h2, if_pos (by omega)]
      · rw [if_neg hi, if_neg (by omega), if_neg (by omega)]

/-- the end of a body: one result in a variable of its own -/
theorem ret_cell {fn : Func} {R : Value → World → Prop} {t T ty b : Nat} {l : List Value} {fr : Nat × Nat} {d : TypeDesc} (hr : fn.results = #[.cell t ty]) (hv : ev n f (.tmp t) = .pointer (some ⟨b, 0, none⟩)) (hb : w.heap[b]? = some (.cells l.toArray T fr))
    (hu : P.underlying ty = some d) (hdd : (match d with | .struct _ | .array _ _ => true | _ => false) = true) (hs : (P.info? ty).map (·.size) = some l.length) (h : R (.agg l.toArray) w) : bodyPost P fn (fun e w' => ∃ v, e = .returned v ∧ R v w') .ret (St n f) w := by
  refine ⟨rfl, .agg l.toArray, ?_, _, rfl, h⟩
  have : (St n f).tmps.getD t undef = .pointer (some ⟨b, 0, none⟩) := by rw [← hv, ← eval_St]; rfl
  exact results_cell_row hr _ w b T l.toArray fr d this hb hu hdd (by simpa using hs)
end
end Go.Dk
