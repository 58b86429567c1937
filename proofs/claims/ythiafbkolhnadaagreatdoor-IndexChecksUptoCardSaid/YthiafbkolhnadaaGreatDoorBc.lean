/-
  More steps: appends of strings, sums of strings.
-/
import Derived.Test.YthiafbkolhnadaaGreatDoorBb
import Derived.Lib.AppendStr
set_option linter.unusedVariables false
namespace Go.Dk
open Go Go.RowKit Go.Lib

def bs (l : List UInt8) : ByteArray := ⟨l.toArray⟩
theorem bs_append (a b : List UInt8) : bs a ++ bs b = bs (a ++ b) := by
  apply ByteArray.ext
  rw [ByteArray.data_append]
  apply Array.ext'
  simp [bs]
theorem bs_size (l : List UInt8) : (bs l).size = l.length := by simp [bs, ByteArray.size]
theorem bs_of (s : ByteArray) : bs s.data.toList = s := by cases s; rfl
def bv (x : UInt8) : Value := .int .u8 x.toNat
theorem cells_bs (l : List UInt8) : strCells (bs l) = l.map bv := rfl
theorem cells_of (s : ByteArray) : strCells s = s.data.toList.map bv := rfl
theorem u8t {n : Nat} (h : n < 256) : (UInt8.ofNat n).toNat = n := by rw [UInt8.toNat_ofNat']; omega
def EI8 (P : Program) (e : Nat) : Prop := ∃ i, P.info? e = some i ∧ i.zero = some (.int .u8 0) ∧ i.size = 1 ∧ i.bytes = 1
theorem ei8_of {P : Program} {e : Nat} (h : (P.info? e).map (fun i => (i.zero, i.size, i.bytes)) = some (some (.int .u8 0), 1, 1)) : EI8 P e := by
  obtain ⟨i, hi, hzz⟩ := Option.map_eq_some_iff.1 h
  simp only [Prod.mk.injEq] at hzz
  exact ⟨i, hi, hzz.1, hzz.2.1, hzz.2.2⟩
section
variable {P : Program} {ops : Array Oper} {Q : Exit → Act → World → Prop} {rest : List Oper} {o : Oper} {n : Nat} {f : Nat → Value} {w w0 : World} {L : List (Nat × Obj)} {R : List Row} {ρ : Operand → Value}
theorem run_append_newS {t u ty e : Nat} {v : Value} {k base : Nat} {xs : List Value} {s : ByteArray} (ei : EI8 P e) (ht : P.underlying t = some (.slice e)) (hu : P.underlying u = some .string) (hown : w.ownsRow base e 1 v k xs) (hb : k + s.size ≤ 140737488355328) (hbase : base ≤ w.heap.size) :
    ∃ v' w', (Builtin.append_ #[t, u] ty #[v, .string s]).run P w = .ok v' w' ∧ w'.ownsRow base e 1 v' (k + s.size) (xs ++ strCells s) ∧ w.grownBy w' v.ownBlock ∧ (∀ q, v'.ownBlock = some q → v.ownBlock = some q ∨ w.heap.size ≤ q) := by
  obtain ⟨i, hi, hz, hsz, hby⟩ := ei
  obtain ⟨v', w', hrun, hrow, hgr, hnil⟩ := run_append_own_string (P := P) w base t u ty e i ht hu hi hz hsz hby v k xs hown s (by unfold maxLen; omega) hb hbase
  refine ⟨v', w', hrun, hrow, hgr, ?_⟩
  intro q hq
  rcases hown.2 with ⟨rfl, rfl⟩ | ⟨g, cap, cur, rfl, hbg, hg, hnc, hcm, hcs, htake⟩
  · by_cases hm : s.size = 0
    · rw [hnil.2 ⟨rfl, hm⟩] at hq
      simp [Value.ownBlock] at hq
    · have hr := run_append_nil_string (P := P) w t u ty e i (.int .u8 0) ht hu hi hz s (by omega) (by omega) (by rw [hby]; omega)
      rw [hr] at hrun
      cases hrun
      simp only [Value.ownBlock, Option.some.injEq] at hq
      exact .inr (by omega)
  · by_cases hroom : k + s.size ≤ cap
    · have hr := run_append_room_string (P := P) w t u ty e i ht hu hi hsz g k cap cur hg s hroom (by omega)
      rw [hr] at hrun
      cases hrun
      exact .inl hq
    · have holds : ∀ j u, xs[j]? = some u → w.cell? ((⟨g, 0, none⟩ : Addr).add j) = some u := hown.cells (g := g) rfl
      have hr := run_append_grow_string (P := P) w t u ty e i (.int .u8 0) ht hu hi hz ⟨g, 0, none⟩ k cap xs (by rw [hsz]; exact hown.1) holds s (by omega) (by omega) (by rw [hby]; exact growslice_fits (by omega) (by omega))
      rw [hr] at hrun
      cases hrun
      simp only [Value.ownBlock, Option.some.injEq] at hq
      exact .inr (by omega)

/-- a string's bytes are appended to the first of the call's own slices -/
theorem s_appendS {x y : Operand} {t u e : Nat} {v : Value} {k d : Nat} {xs : List Value} {s : ByteArray} (cx : Cxr w0 w L (⟨e, 1, v, k, xs⟩ :: R)) (ei : EI8 P e) (ht : P.underlying t = some (.slice e)) (hu : P.underlying u = some .string)
    (hg : o.guard = none) (hd : o.dst = some d) (ho : o.op = .call { callee := .builtin .append, args := #[x, y], argTypes := #[t, u] }) (hs : ev n f x = v) (hx : ev n f y = .string s) (hb : k + s.size ≤ 140737488355328)
    (h : ∀ v' w', Cxr w0 w' L (⟨e, 1, v', k + s.size, xs ++ strCells s⟩ :: R) → w.grownBy w' v.ownBlock → wpList P ops Q rest (St n (upd f d v')) w') : wpList P ops Q (o :: rest) (St n f) w := by
  have hrow0 := cx.rows _ (List.mem_cons_self ..)
  have hoff0 := cx.off _ (List.mem_cons_self ..)
  have hpw0 := (List.pairwise_cons.1 cx.pw).1
  simp only at hrow0 hoff0
  obtain ⟨v', w', hrun, hrow, hgr, hnew⟩ := run_append_newS (P := P) (ty := o.type) (s := s) ei ht hu hrow0 hb cx.ext.size
  have hcx0 : Cxr w0 w' L R := by
    refine ⟨cx.ext.grown hgr cx.ext.size (fun k hk => (hrow0.lt k hk).1), ?_, cx.lo, cx.nd, ?_, fun r hr => cx.off r (List.mem_cons_of_mem _ hr), (List.pairwise_cons.1 cx.pw).2⟩
    · intro p hp'
      rw [hgr.block p.1 (cx.lt p hp') (fun e => hoff0 p.1 e.symm (List.mem_map.2 ⟨p, hp', rfl⟩))]
      exact cx.own p hp'
    · intro r hr
      refine cx.row_keep (List.mem_cons_of_mem _ hr) hgr.os hgr.tape hgr.output hgr.size fun q hq hv => hgr.block q hq fun e => ?_
      exact hpw0 r hr q e.symm hv
  refine s_new (w' := w') (v := v') hg hd ?_ (h v' w' (hcx0.addRow _ hrow ?_ ?_) hgr)
  · unfold execOp; rw [ho]
    simp [resolve, invoke, builtin, hs, hx, hrun, Result.andThen]
  · intro q hq hm
    obtain ⟨p, hp', rfl⟩ := List.mem_map.1 hm
    rcases hnew _ hq with h2 | h2
    · exact hoff0 _ h2 (List.mem_map.2 ⟨p, hp', rfl⟩)
    · have := cx.lt p hp'; omega
  · intro r hr q hq hq'
    rcases hnew _ hq with h2 | h2
    · exact hpw0 r hr q h2 hq'
    · have := ((cx.rows r (List.mem_cons_of_mem _ hr)).lt _ hq').2; omega
theorem v_strAdd {t t' : TypeId} {x y : Operand} {s u : ByteArray} (ho : o.op = .binOp .add t x y t') (hx : ρ x = .string s) (hy : ρ y = .string u) (h : s.size + u.size ≤ 9223372036854775807) : (execOp ρ o).run P w = .ok (.value (.string (s ++ u))) w := by
  unfold execOp; rw [ho]
  have : ¬ (9223372036854775807 : Int) < (s.size : Int) + (u.size : Int) := by omega
  simp [hx, hy, eqGuard, binOp, Op.stringOp, this]
theorem v_strAddB {t t' : TypeId} {x y : Operand} {a b : List UInt8} (ho : o.op = .binOp .add t x y t') (hx : ρ x = .string (bs a)) (hy : ρ y = .string (bs b)) (h : a.length + b.length ≤ 9223372036854775807) : (execOp ρ o).run P w = .ok (.value (.string (bs (a ++ b)))) w := by
  rw [← bs_append]
  exact v_strAdd ho hx hy (by rw [bs_size, bs_size]; exact h)
theorem s_appendB {x y : Operand} {t u e : Nat} {v : Value} {k d : Nat} {xs : List Value} {l : List UInt8} (cx : Cxr w0 w L (⟨e, 1, v, k, xs⟩ :: R)) (ei : EI8 P e) (ht : P.underlying t = some (.slice e)) (hu : P.underlying u = some .string)
    (hg : o.guard = none) (hd : o.dst = some d) (ho : o.op = .call { callee := .builtin .append, args := #[x, y], argTypes := #[t, u] }) (hs : ev n f x = v) (hx : ev n f y = .string (bs l)) (hb : k + l.length ≤ 140737488355328)
    (h : ∀ v' w', Cxr w0 w' L (⟨e, 1, v', k + l.length, xs ++ l.map bv⟩ :: R) → w.grownBy w' v.ownBlock → wpList P ops Q rest (St n (upd f d v')) w') : wpList P ops Q (o :: rest) (St n f) w :=
  s_appendS cx ei ht hu hg hd ho hs hx (by rw [bs_size]; exact hb) fun v' w' cx' hgr => h v' w' (by rw [bs_size] at cx'; exact cx') hgr
theorem Cxr.row_eq {e sz n n' : Nat} {v : Value} {xs xs' : List Value} (h : Cxr w0 w L (⟨e, sz, v, n, xs⟩ :: R)) (hn : n = n') (hx : xs = xs') : Cxr w0 w L (⟨e, sz, v, n', xs'⟩ :: R) := by subst hn hx; exact h
theorem v_quo {t t' : TypeId} {x y : Operand} {p q : Nat} (ho : o.op = .binOp .quo t x y t') (hx : ρ x = .int .i64 p) (hy : ρ y = .int .i64 q) (hp : p ≤ 9223372036854775807) (hq : q ≠ 0) : (execOp ρ o).run P w = .ok (.value (.int .i64 ((p / q : Nat) : Int))) w := by
  unfold execOp; rw [ho]
  have h1 : ((p : Int).tdiv q) = ((p / q : Nat) : Int) := by rw [← Int.ofNat_tdiv]
  have h2 : p / q ≤ p := Nat.div_le_self _ _
  have h3 : IntKind.i64.wrap ((p : Int) / (q : Int)) = (p : Int) / (q : Int) := by
    rw [← Int.natCast_ediv]
    generalize p / q = z at h2
    exact IntWalk.i64_in _ (by omega)
  simp [hx, hy, eqGuard, binOp, Op.intDiv, hq, h1, h3]
theorem v_rem {t t' : TypeId} {x y : Operand} {p q : Nat} (ho : o.op = .binOp .rem t x y t') (hx : ρ x = .int .i64 p) (hy : ρ y = .int .i64 q) (hq : q ≠ 0) : (execOp ρ o).run P w = .ok (.value (.int .i64 ((p % q : Nat) : Int))) w := by
  unfold execOp; rw [ho]
  have h1 : ((p : Int).tmod q) = ((p % q : Nat) : Int) := by rw [← Int.ofNat_tmod]
  simp [hx, hy, eqGuard, binOp, Op.intDiv, hq, h1]
/-- the first elements of a slice -/
theorem v_preSl {t e : TypeId} {x y : Operand} {a : Option Addr} {len cap : Nat} {k : IntKind} {m : Int} (ho : o.op = .slice t x none (some y) none) (hx : ρ x = .slice a len cap) (hy : ρ y = .int k m) (hu : P.underlying t = some (.slice e)) {sz : Nat} (hs : (P.info? e).map (·.size) = some sz) (h0 : 0 ≤ m) (h1 : m ≤ cap) :
    (execOp ρ o).run P w = .ok (.value (.slice a m.toNat cap)) w := by
  unfold execOp; rw [ho]
  have ha : Option.map (fun x : Addr => x.add 0) a = a := by
    cases a with
    | none => rfl
    | some a => simp [Addr.add]
  simp [hx, hy, Instr.sliceAt, Instr.slice, Instr.sliceBounds, Instr.sliceBound, asIntOf, run_underlying hu, h0, h1, run_size (w := w) hs, ha]
/-- the address of an element of an array -/
theorem v_iaA {x ix : Operand} {t e : TypeId} {s b k len : Nat} {m : Int} {kd : IntKind} (hu : P.underlying t = some (.array len e)) (hs : (P.info? e).map (·.size) = some s) (ho : o.op = .indexAddr t x ix)
    (hx : ρ x = .pointer (some ⟨b, k, none⟩)) (hi : ρ ix = .int kd m) (h0 : 0 ≤ m) (h1 : m < len) :
    (execOp ρ o).run P w = .ok (.value (.pointer (some ⟨b, k + m.toNat * s, none⟩))) w := by
  unfold execOp
  rw [ho]
  simp [hx, hi, Instr.indexAt, Instr.sureAddr, run_underlying hu, asIntOf, h0, h1, run_size (w := w) hs, add_addr]
end
theorem toList_inj (a b : ByteArray) : a.toList = b.toList ↔ a = b := by
  have := bytes_eq a b
  by_cases h : a = b
  · simp [h]
  · simp only [h, decide_false, beq_eq_false_iff_ne] at this
    exact ⟨fun e => absurd e this, fun e => absurd e h⟩
section
variable {P : Program} {o : Oper} {w : World} {ρ : Operand → Value}
theorem v_agg {op : BinOp} {t t' : TypeId} {x y : Operand} {xs ys : Array Value} {r : Bool} (hg : P.eqGuardType P.depth t = false) (h : ∀ w, (binOp op t (.agg xs) (.agg ys)).run P w = .ok (.bool r) w) (ho : o.op = .binOp op t x y t')
    (hx : ρ x = .agg xs) (hy : ρ y = .agg ys) : (execOp ρ o).run P w = .ok (.value (.bool r)) w := by
  unfold execOp; rw [ho]
  simp [hx, hy, run_eqGuard_agg w op t x y xs ys hg, h w]
theorem v_build {t : TypeId} {ps : Array (Nat × Operand)} {qs : List (Nat × Value)} {v : Value} (h : ∀ w, (Instr.build t qs.toArray).run P w = .ok v w) (ho : o.op = .build t ps) (hq : ps.toList.map (fun p => (p.1, ρ p.2)) = qs) : (execOp ρ o).run P w = .ok (.value v) w := by
  unfold execOp; rw [ho]
  have e : ps.map (fun p => (p.1, ρ p.2)) = qs.toArray := by rw [← hq]; apply Array.ext'; simp
  simp [e, h w]
end
theorem RowAt.sub {w : World} {b o : Nat} {l : List Value} (k : Nat) {l' : List Value} (h : RowAt w b o l) (h' : (l.drop k).take l'.length = l') : RowAt w b (o + k) l' := by
  intro j y hj
  rw [Nat.add_assoc]
  refine h _ _ ?_
  rw [← h'] at hj
  rw [List.getElem?_take] at hj
  split at hj
  · rwa [List.getElem?_drop] at hj
  · cases hj
theorem tup_sz {r : Int} {z m : Nat} {x y : Value} (h : z = m) (hx : x = .int .i64 r) (hy : y = .int .i64 m) : Value.tuple #[x, y] = .tuple #[.int .i64 r, .int .i64 z] := by subst h hx hy; rfl
theorem tup_s {a b : ByteArray} {m k : Int} {x y : Value} (h : a = b) (h2 : m = k) (hx : x = .string a) (hy : y = .int .i64 m) : Value.tuple #[x, y] = .tuple #[.string b, .int .i64 k] := by subst h h2 hx hy; rfl
theorem tup_b {b c : Bool} {x y : Value} (h : b = c) (hy : y = .bool b) : Value.tuple #[x, y] = .tuple #[x, .bool c] := by subst h hy; rfl
theorem tup_i {r m k : Int} {x y : Value} (h : m = k) (hx : x = .int .i64 r) (hy : y = .int .i64 m) : Value.tuple #[x, y] = .tuple #[.int .i64 r, .int .i64 k] := by subst h hx hy; rfl
theorem Ctx.sub0 {w0 w : World} {L : List (Nat × Obj)} {R : List Row} (h : Cxr w0 w L R) : Ctx w0 w [] := ⟨h.ext, by simp, by simp, by simp, by simp, by simp, by simp⟩
end Go.Dk
