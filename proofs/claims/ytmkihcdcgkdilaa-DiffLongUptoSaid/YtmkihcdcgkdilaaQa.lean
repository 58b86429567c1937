/-
  More steps: slices made of zeros, single cells of the call's own slices, largest and quotient.
-/
import Derived.Test.YtmkihcdcgkdilaaSm
import Derived.Laws.OwnMore
set_option linter.unusedVariables false
set_option linter.unusedSimpArgs false
namespace Go.Dk
open Go Go.RowKit
theorem Cxr.swap {w0 w : World} {L : List (Nat × Obj)} {r s : Row} {R : List Row} (h : Cxr w0 w L (r :: s :: R)) : Cxr w0 w L (s :: r :: R) := by
  have hm : ∀ t, t ∈ s :: r :: R → t ∈ r :: s :: R := fun t ht => by
    simp only [List.mem_cons] at ht ⊢
    rcases ht with h | h | h
    · exact .inr (.inl h)
    · exact .inl h
    · exact .inr (.inr h)
  have h1 := List.pairwise_cons.1 h.pw
  have h2 := List.pairwise_cons.1 h1.2
  refine ⟨h.ext, h.own, h.lo, h.nd, fun t ht => h.rows t (hm t ht), fun t ht => h.off t (hm t ht), List.pairwise_cons.2 ⟨fun t ht k hk hk' => ?_, List.pairwise_cons.2 ⟨fun t ht => h1.1 t (List.mem_cons_of_mem _ ht), h2.2⟩⟩⟩
  rcases List.mem_cons.1 ht with rfl | ht
  · exact h1.1 s (by simp) k hk' hk
  · exact h2.1 t ht k hk hk'
section
variable {P : Program} {ops : Array Oper} {Q : Exit → Act → World → Prop} {rest : List Oper} {o : Oper} {n : Nat} {f : Nat → Value} {w w0 : World} {L : List (Nat × Obj)} {R : List Row} {ρ : Operand → Value}
theorem v_addQ {t t' : TypeId} {x y : Operand} {p q r : Int} (ho : o.op = .binOp .add t x y t') (hx : ρ x = .int .i64 p) (hy : ρ y = .int .i64 q) (he : p + q = r) (h1 : -9223372036854775808 ≤ r) (h2 : r ≤ 9223372036854775807) : (execOp ρ o).run P w = .ok (.value (.int .i64 r)) w := by
  subst he; exact v_add ho hx hy h1 h2
theorem v_subQ {t t' : TypeId} {x y : Operand} {p q r : Int} (ho : o.op = .binOp .sub t x y t') (hx : ρ x = .int .i64 p) (hy : ρ y = .int .i64 q) (he : p - q = r) (h1 : -9223372036854775808 ≤ r) (h2 : r ≤ 9223372036854775807) : (execOp ρ o).run P w = .ok (.value (.int .i64 r)) w := by
  subst he; exact v_sub ho hx hy h1 h2
theorem v_mulN {t t' : TypeId} {x y : Operand} {a b : Nat} (ho : o.op = .binOp .mul t x y t') (hx : ρ x = .int .i64 (a : Int)) (hy : ρ y = .int .i64 (b : Int)) (h2 : a * b ≤ 9223372036854775807) : (execOp ρ o).run P w = .ok (.value (.int .i64 ((a * b : Nat) : Int))) w := by
  have := v_mul (P := P) (w := w) ho hx hy (by rw [← Int.natCast_mul]; omega) (by rw [← Int.natCast_mul]; omega)
  rwa [← Int.natCast_mul] at this
theorem v_max {t t' : TypeId} {x y : Operand} {a b : Int} (ho : o.op = .call { callee := .builtin .max, args := #[x, y], argTypes := #[t, t'] }) (hx : ρ x = .int .i64 a) (hy : ρ y = .int .i64 b) : (execOp ρ o).run P w = .ok (.value (.int .i64 (max a b))) w := by
  unfold execOp
  rw [ho]
  have e : (if b > a then b else a) = max a b := by rw [Int.max_def]; split <;> split <;> omega
  simp [resolve, invoke, builtin, hx, hy, run_max_int2, e]
/-- a slice of zeros, made by the call -/
theorem s_make {t e bytes d nn : Nat} {x : Operand} {zs : List Value} (cx : Cxr w0 w L R) (ht : P.underlying t = some (.slice e)) (hi : ∃ i z, P.info? e = some i ∧ i.zero = some z ∧ i.size = 1 ∧ i.bytes = bytes ∧ z.cells = zs.toArray) (hz : zs.length = 1)
    (hg : o.guard = none) (hd : o.dst = some d) (ho : o.op = .makeSlice t x x) (hx : ev n f x = .int .i64 (nn : Int)) (hb : bytes * nn ≤ 281474976710656) (hn : nn ≤ maxLen)
    (h : ∀ v w', Cxr w0 w' L (⟨e, 1, v, nn, List.replicate nn (zs.getD 0 undef)⟩ :: R) → w.grownBy w' none → (∃ g, v = .slice (some ⟨g, 0, none⟩) nn nn) → wpList P ops Q rest (St n (upd f d v)) w') : wpList P ops Q (o :: rest) (St n f) w := by
  obtain ⟨i, z, h1, h2, h3, h4, h5⟩ := hi
  obtain ⟨w', hr, hrow, hgr⟩ := run_make_full (P := P) w w0.heap.size t e i z 1 ht h1 h2 h3 .i64 .i64 nn (by rw [h4]; exact hb) hn cx.ext.size
  refine s_new (w' := w') (v := .slice (some ⟨w.heap.size, 0, none⟩) nn nn) hg hd ?_ (h _ _ ?_ hgr ⟨_, rfl⟩)
  · unfold execOp; rw [ho]; simp [hx, hr]
  · have hbel : Below w.heap.size w w' := ⟨hgr.os, hgr.tape, hgr.output, hgr.size, fun k hk => hgr.block k hk (by simp)⟩
    obtain ⟨z0, rfl⟩ : ∃ z0, zs = [z0] := List.length_eq_one_iff.1 hz
    have e1 : (madeCells z.cells (nn * 1)).toList = List.replicate nn z0 := by
      rw [Nat.mul_one, h5]
      exact toList_madeCells_one z0 nn
    rw [e1] at hrow
    refine (cx.call hbel).addRow _ hrow ?_ ?_
    · intro q hq hm
      simp only [Value.ownBlock, Option.some.injEq] at hq
      obtain ⟨p, hp, rfl⟩ := List.mem_map.1 hm
      have := cx.lt p hp; omega
    · intro s hs q hq hq'
      simp only [Value.ownBlock, Option.some.injEq] at hq
      have := ((cx.rows s hs).lt _ hq').2; omega
/-- one cell of the first of the call's own slices is written -/
theorem s_cell {t : TypeId} {x y : Operand} {e k cap g j : Nat} {xs : List Value} {v : Value} (cx : Cxr w0 w L (⟨e, 1, .slice (some ⟨g, 0, none⟩) k cap, k, xs⟩ :: R)) (hg : o.guard = none) (hd : o.dst = none) (ho : o.op = .store t x y) (hx : ev n f x = .pointer (some ⟨g, j, none⟩)) (hy : ev n f y = v) (h1 : v.oneCell' = true) (hj : j < xs.length) (hs : (P.info? t).map (·.size) = some 1)
    (h : ∀ w', Cxr w0 w' L (⟨e, 1, .slice (some ⟨g, 0, none⟩) k cap, k, xs.set j v⟩ :: R) → w.grownBy w' (some g) → wpList P ops Q rest (St n f) w') : wpList P ops Q (o :: rest) (St n f) w := by
  have hrow0 := cx.rows _ (List.mem_cons_self ..)
  have hoff0 := cx.off _ (List.mem_cons_self ..)
  have hpw0 := (List.pairwise_cons.1 cx.pw).1
  simp only at hrow0 hoff0 hpw0
  obtain ⟨hst, hgr⟩ := World.ownsRow.stored (w := w) hrow0 j v
  have hc : v.cells = #[v] := by cases v <;> first | rfl | simp [Value.oneCell'] at h1
  have hcell : w.cell? ⟨g, j, none⟩ = some xs[j] := by
    have h0 : 0 < k := by
      have := hrow0.1
      rcases Nat.eq_zero_or_pos k with h | h
      · subst h; omega
      · exact h
    have := cx.rowOf h0 j xs[j] (List.getElem?_eq_getElem hj)
    simpa using this
  have hfr : w.frozen? ⟨g, j, none⟩ = false := World.ownsRow.frozenAt hrow0 j
  refine s_put (w' := w.setCell ⟨g, j, none⟩ v) hg hd ?_ (h _ ?_ hgr)
  · unfold execOp; rw [ho]
    simp [hx, hy, Instr.storeAt, Instr.sureAddr, storeVar, run_size (w := w) hs, hc, storeCells, run_store P w _ v _ h1, add_addr, hcell, hfr]
  · have hcx0 : Cxr w0 (w.setCell ⟨g, j, none⟩ v) L R := by
      refine ⟨cx.ext.grown hgr cx.ext.size (fun k hk => by simp at hk; subst hk; exact (hrow0.lt _ rfl).1), ?_, cx.lo, cx.nd, ?_, fun r hr => cx.off r (List.mem_cons_of_mem _ hr), (List.pairwise_cons.1 cx.pw).2⟩
      · intro p hp'
        rw [hgr.block p.1 (cx.lt p hp') (fun e => hoff0 p.1 (by rw [e]; rfl) (List.mem_map.2 ⟨p, hp', rfl⟩))]
        exact cx.own p hp'
      · intro r hr
        refine cx.row_keep (List.mem_cons_of_mem _ hr) hgr.os hgr.tape hgr.output hgr.size fun q hq hv => hgr.block q hq fun e => ?_
        exact hpw0 r hr q (by rw [e]; rfl) hv
    exact hcx0.addRow _ hst hoff0 hpw0
end
/-- the cells of any of the call's own slices -/
theorem Cxr.rowAt {w0 w : World} {L : List (Nat × Obj)} {R : List Row} {e k n g c : Nat} {xs : List Value} (cx : Cxr w0 w L R) (hr : (⟨e, k, .slice (some ⟨g, 0, none⟩) n c, n, xs⟩ : Row) ∈ R) (h0 : 0 < n) : RowAt w g 0 xs := by
  obtain ⟨a, c', e', h⟩ := own_row (cx.rows _ hr)
  obtain ⟨g', rfl, h1⟩ := h h0
  simp only [Value.slice.injEq, Option.some.injEq, Addr.mk.injEq, and_true, true_and] at e'
  obtain ⟨rfl, _⟩ := e'
  exact h1
end Go.Dk
namespace Go.Dk
open Go Go.RowKit
section
variable {P : Program} {Q : Exit → Act → World → Prop} {w w0 wk : World} {L : List (Nat × Obj)} {R : List Row} {n : Nat} {f : Nat → Value}
/-- as w_ord, for a region whose last operation alone writes -/
theorem w_ordF {id : Nat} {l : List Oper} (cx : Cxr w0 w L R) (hm : P.follows .mixedOrders = true) (pu : List (Nat × Nat)) (m : Array Bool)
    (hch : chkOrd l.toArray pu = true) (hmk : mskOrd l.toArray pu m = true) (hn : pu.all (fun p => Nat.blt p.2 n) = true) (hi : incr pu = true)
    (h : wpPu P l.toArray n (fun w' => Cxr w0 w' L R) (fun g => ∀ w', Cxr w0 w' L R → Below w.heap.size w w' → wpX P l.toArray pu Q (fun w' => Cxr w0 w' L R) (l.length + 1) m (St n g) w') pu f) : (Code.region id l.toArray true).wp P Q (St n f) w := by
  obtain ⟨g, hF, hag, hall⟩ := wpPu_spec hch pu f (fun _ h => h) hi h
  refine w_orders cx hm pu m (fun w' => Cxr w0 w' L R) g hch hmk (fun p hp => by have := List.all_eq_true.1 hn p hp; simpa using this) hag (fun p hp => ?_) (fun w' hS p hp => ?_) fun w' hc hb he => ⟨hc, hF w' hc hb⟩
  · obtain ⟨o, h1, h2, _⟩ := hall p hp; exact ⟨o, by simpa using h1, h2⟩
  · obtain ⟨o, h1, _, h2⟩ := hall p hp; exact ⟨o, by simpa using h1, h2 w' hS⟩
end
theorem v_mulC {P : Program} {o : Oper} {w : World} {ρ : Operand → Value} {t t' : TypeId} {x y : Operand} {a b c : Nat} (ho : o.op = .binOp .mul t x y t') (hx : ρ x = .int .i64 (a : Int)) (hy : ρ y = .int .i64 (b : Int)) (he : a * b = c) (h2 : c ≤ 9223372036854775807) : (execOp ρ o).run P w = .ok (.value (.int .i64 (c : Int))) w := by
  subst he; exact v_mulN ho hx hy h2
end Go.Dk
