/-
  More proof steps: calls under a guard, strings, slices that the call makes, append.
-/
import Derived.Test.YthiafbkolhnadaaGreatDoorBa
import Derived.Laws.CopyOwn
namespace Go.Dk
open Go Go.RowKit

/-- a contract of a function that leaves what there was -/
def Fc (P : Program) (k : FuncId) (args : List Value) (w : World) (R : Value → World → Prop) : Prop :=
  Ret P k args w fun v w' => Below w.heap.size w w' ∧ R v w'
theorem Fc.mono {P : Program} {k : FuncId} {args : List Value} {w : World} {R R' : Value → World → Prop} (h : Fc P k args w R) (hr : ∀ v w', Below w.heap.size w w' → R v w' → R' v w') : Fc P k args w R' :=
  Ret.mono h fun v w' ⟨a, b⟩ => ⟨a, hr v w' a b⟩

section
variable {P : Program} {ops : Array Oper} {Q : Exit → Act → World → Prop} {rest : List Oper} {o : Oper} {n : Nat} {f : Nat → Value} {w w0 : World} {L : List (Nat × Obj)} {R : List Row} {ρ : Operand → Value}

theorem run_callOp {k : Nat} {as : Array Operand} {ats : Array TypeId} {fn : Func} {args : List Value} (hf : P.funcs[k]? = some fn) (hb : fn.body.isNone = false) (hn : (fn.name == "runtime.NumGoroutine") = false)
    (ho : o.op = .call { callee := .value (.func k), args := as, argTypes := ats }) (hargs : as.toList.map (ev n f) = args) : (execOp (ev n f) o).run P w = .ok (.enter k args.toArray) w := by
  have h1 : fn.name ≠ "runtime.NumGoroutine" := by simpa using hn
  have h2 : ¬ fn.body = none := by intro e; simp [e] at hb
  unfold execOp; rw [ho]
  have e : as.map (ev n f) = args.toArray := by rw [← hargs]; apply Array.ext'; simp
  simp [resolve, e, ev, Deferred.ofValue, invoke, callFunc, hf, h1, h2]

/-- a call by a contract that leaves what there was -/
theorem s_fn {d k : Nat} {as : Array Operand} {ats : Array TypeId} {fn : Func} {args : List Value} {T : Value → World → Prop} (cx : Cxr w0 w L R) (hc : Fc P k args w T) (hf : P.funcs[k]? = some fn) (hb : fn.body.isNone = false) (hn : (fn.name == "runtime.NumGoroutine") = false)
    (hg : o.guard = none) (hd : o.dst = some d) (ho : o.op = .call { callee := .value (.func k), args := as, argTypes := ats }) (hargs : as.toList.map (ev n f) = args)
    (h : ∀ v w', Cxr w0 w' L R → Below w.heap.size w w' → T v w' → wpList P ops Q rest (St n (upd f d v)) w') : wpList P ops Q (o :: rest) (St n f) w :=
  s_call hc hf hb hn hg hd ho hargs fun v w' ⟨hw, hr⟩ => h v w' (cx.call hw) hw hr

/-- the same under a guard -/
theorem s_gfn {d j dj k : Nat} {pol c : Bool} {as : Array Operand} {ats : Array TypeId} {fn : Func} {args : List Value} {T : Value → World → Prop} (cx : Cxr w0 w L R) (hg : o.guard = some (j, pol)) (hd : o.dst = some d) (hj : (ops[j]?).bind (·.dst) = some dj) (hw : WantB (ev n f (.tmp dj)) pol c)
    (hc : c = true → Fc P k args w T) (hf : P.funcs[k]? = some fn) (hb : fn.body.isNone = false) (hn : (fn.name == "runtime.NumGoroutine") = false)
    (ho : o.op = .call { callee := .value (.func k), args := as, argTypes := ats }) (hargs : c = true → as.toList.map (ev n f) = args)
    (h : ∀ v w', Cxr w0 w' L R → Below w.heap.size w w' → (c = true → T v w') → wpList P ops Q rest (St n (upd f d (gv c v))) w') : wpList P ops Q (o :: rest) (St n f) w := by
  have hwant := wanted_St (o := o) (ops := ops) hg hj hw
  refine wpList_step fun K hK => ?_
  rw [hwant]
  cases c with
  | true =>
    simp only [if_true]
    unfold Oper.wp
    rw [eval_St, run_callOp hf hb hn ho (hargs rfl)]
    refine Calls.mono (hc rfl) ?_
    rintro e w' ⟨v, rfl, hbel, hr⟩
    show K ((St n f).put o.dst v) w'
    refine hK _ _ ?_
    rw [hd, put_St]
    have h := h v w' (cx.call hbel) hbel fun _ => hr
    unfold gv at h
    exact h
  | false =>
    simp only [Bool.false_eq_true, if_false]
    refine hK _ _ ?_
    rw [hd, put_St]
    have h := h undef w cx (Below.refl _ _) (fun e => by cases e)
    unfold gv at h
    exact h
/-- a bool comes back -/
def IsB (p : Bool → Prop) (v : Value) (_ : World) : Prop := ∃ b, v = .bool b ∧ p b
def IsI (p : Int → Prop) (v : Value) (_ : World) : Prop := ∃ m, v = .int .i64 m ∧ p m
theorem s_fnB {d k : Nat} {as : Array Operand} {ats : Array TypeId} {fn : Func} {args : List Value} {p : Bool → Prop} (cx : Cxr w0 w L R) (hc : Fc P k args w (IsB p)) (hf : P.funcs[k]? = some fn) (hb : fn.body.isNone = false) (hn : (fn.name == "runtime.NumGoroutine") = false)
    (hg : o.guard = none) (hd : o.dst = some d) (ho : o.op = .call { callee := .value (.func k), args := as, argTypes := ats }) (hargs : as.toList.map (ev n f) = args)
    (h : ∀ b w', Cxr w0 w' L R → Below w.heap.size w w' → p b → wpList P ops Q rest (St n (upd f d (.bool b))) w') : wpList P ops Q (o :: rest) (St n f) w :=
  s_fn cx hc hf hb hn hg hd ho hargs fun v w' hcx hw ⟨b, hv, hp⟩ => by subst hv; exact h b w' hcx hw hp
theorem s_fnI {d k : Nat} {as : Array Operand} {ats : Array TypeId} {fn : Func} {args : List Value} {p : Int → Prop} (cx : Cxr w0 w L R) (hc : Fc P k args w (IsI p)) (hf : P.funcs[k]? = some fn) (hb : fn.body.isNone = false) (hn : (fn.name == "runtime.NumGoroutine") = false)
    (hg : o.guard = none) (hd : o.dst = some d) (ho : o.op = .call { callee := .value (.func k), args := as, argTypes := ats }) (hargs : as.toList.map (ev n f) = args)
    (h : ∀ m w', Cxr w0 w' L R → Below w.heap.size w w' → p m → wpList P ops Q rest (St n (upd f d (.int .i64 m))) w') : wpList P ops Q (o :: rest) (St n f) w :=
  s_fn cx hc hf hb hn hg hd ho hargs fun v w' hcx hw ⟨b, hv, hp⟩ => by subst hv; exact h b w' hcx hw hp
theorem s_gfnB {d j dj k : Nat} {pol c : Bool} {as : Array Operand} {ats : Array TypeId} {fn : Func} {args : List Value} {p : Bool → Prop} (cx : Cxr w0 w L R) (hg : o.guard = some (j, pol)) (hd : o.dst = some d) (hj : (ops[j]?).bind (·.dst) = some dj) (hw : WantB (ev n f (.tmp dj)) pol c)
    (hc : c = true → Fc P k args w (IsB p)) (hf : P.funcs[k]? = some fn) (hb : fn.body.isNone = false) (hn : (fn.name == "runtime.NumGoroutine") = false)
    (ho : o.op = .call { callee := .value (.func k), args := as, argTypes := ats }) (hargs : c = true → as.toList.map (ev n f) = args)
    (h : ∀ b w', Cxr w0 w' L R → Below w.heap.size w w' → (c = true → p b) → wpList P ops Q rest (St n (upd f d (gv c (.bool b)))) w') : wpList P ops Q (o :: rest) (St n f) w := by
  refine s_gfn cx hg hd hj hw hc hf hb hn ho hargs fun v w' hcx hbel hr => ?_
  cases c with
  | true =>
    obtain ⟨b, rfl, hp⟩ := hr rfl
    exact h b w' hcx hbel fun _ => hp
  | false =>
    have h := h false w' hcx hbel fun e => by cases e
    unfold gv at h ⊢
    exact h
theorem s_gfnI {d j dj k : Nat} {pol c : Bool} {as : Array Operand} {ats : Array TypeId} {fn : Func} {args : List Value} {p : Int → Prop} (cx : Cxr w0 w L R) (hg : o.guard = some (j, pol)) (hd : o.dst = some d) (hj : (ops[j]?).bind (·.dst) = some dj) (hw : WantB (ev n f (.tmp dj)) pol c)
    (hc : c = true → Fc P k args w (IsI p)) (hf : P.funcs[k]? = some fn) (hb : fn.body.isNone = false) (hn : (fn.name == "runtime.NumGoroutine") = false)
    (ho : o.op = .call { callee := .value (.func k), args := as, argTypes := ats }) (hargs : c = true → as.toList.map (ev n f) = args)
    (h : ∀ m w', Cxr w0 w' L R → Below w.heap.size w w' → (c = true → p m) → wpList P ops Q rest (St n (upd f d (gv c (.int .i64 m)))) w') : wpList P ops Q (o :: rest) (St n f) w := by
  refine s_gfn cx hg hd hj hw hc hf hb hn ho hargs fun v w' hcx hbel hr => ?_
  cases c with
  | true =>
    obtain ⟨b, rfl, hp⟩ := hr rfl
    exact h b w' hcx hbel fun _ => hp
  | false =>
    have h := h 0 w' hcx hbel fun e => by cases e
    unfold gv at h ⊢
    exact h

/-! ### numbers and strings -/
theorem v_conv {s t : TypeId} {x : Operand} {k k' : IntKind} {m : Int} {d : TypeDesc} (ho : o.op = .convert s t x) (hx : ρ x = .int k' m) (hs : P.underlying s = some d) (ht : P.underlying t = some (.int k)) :
    (execOp ρ o).run P w = .ok (.value (.int k (k.wrap m))) w := by
  unfold execOp; rw [ho]
  simp [hx, convert, run_underlying hs, run_underlying ht, Conv.intToInt]
theorem wrap_u8 {m : Int} (h0 : 0 ≤ m) (h1 : m < 256) : IntKind.i64.wrap m = m := IntWalk.i64_in _ (by omega)
/-- a conversion of a byte to int -/
theorem v_ofByte {s t : TypeId} {x : Operand} {m : Int} {d : TypeDesc} (ho : o.op = .convert s t x) (hx : ρ x = .int .u8 m) (hs : P.underlying s = some d) (ht : P.underlying t = some (.int .i64)) (h0 : 0 ≤ m) (h1 : m < 256) :
    (execOp ρ o).run P w = .ok (.value (.int .i64 m)) w := by
  have := v_conv (w := w) ho hx hs ht
  rwa [wrap_u8 h0 h1] at this
def bitOp (op : BinOp) (k : IntKind) (x y : Int) : Int :=
  match op with
  | .and => k.wrap (BitVec.ofInt k.bits x &&& BitVec.ofInt k.bits y).toNat
  | .or => k.wrap (BitVec.ofInt k.bits x ||| BitVec.ofInt k.bits y).toNat
  | _ => 0
theorem v_band {t t' : TypeId} {x y : Operand} {k : IntKind} {p q : Int} (ho : o.op = .binOp .and t x y t') (hx : ρ x = .int k p) (hy : ρ y = .int k q) : (execOp ρ o).run P w = .ok (.value (.int k (bitOp .and k p q))) w := by
  unfold execOp; rw [ho]
  simp [hx, hy, eqGuard, binOp, Op.intBits, bitOp]
theorem v_bor {t t' : TypeId} {x y : Operand} {k : IntKind} {p q : Int} (ho : o.op = .binOp .or t x y t') (hx : ρ x = .int k p) (hy : ρ y = .int k q) : (execOp ρ o).run P w = .ok (.value (.int k (bitOp .or k p q))) w := by
  unfold execOp; rw [ho]
  simp [hx, hy, eqGuard, binOp, Op.intBits, bitOp]
def shl (k : IntKind) (x : Int) (y : Nat) : Int := k.wrap (x * 2 ^ min y k.bits)
def shr (k : IntKind) (x : Int) (y : Nat) : Int := x.fdiv (2 ^ min y k.bits)
theorem v_shl {t t' : TypeId} {x y : Operand} {k k' : IntKind} {p q : Int} (ho : o.op = .binOp .shl t x y t') (hx : ρ x = .int k p) (hy : ρ y = .int k' q) (h0 : 0 ≤ q) : (execOp ρ o).run P w = .ok (.value (.int k (shl k p q.toNat))) w := by
  unfold execOp; rw [ho]
  have : ¬ q < 0 := by omega
  simp [hx, hy, eqGuard, binOp, Op.shift, shl, this]
theorem v_shr {t t' : TypeId} {x y : Operand} {k k' : IntKind} {p q : Int} (ho : o.op = .binOp .shr t x y t') (hx : ρ x = .int k p) (hy : ρ y = .int k' q) (h0 : 0 ≤ q) : (execOp ρ o).run P w = .ok (.value (.int k (shr k p q.toNat))) w := by
  unfold execOp; rw [ho]
  have : ¬ q < 0 := by omega
  simp [hx, hy, eqGuard, binOp, Op.shift, shr, this]
/-- the byte at an index -/
def byteAt (s : ByteArray) (m : Int) : Int := ((s.data.toList.getD m.toNat 0).toNat : Int)
theorem byteAt_lo (s : ByteArray) (m : Int) : 0 ≤ byteAt s m := by unfold byteAt; omega
theorem byteAt_hi (s : ByteArray) (m : Int) : byteAt s m < 256 := by
  unfold byteAt; have := (s.data.toList.getD m.toNat 0).toNat_lt; omega
theorem v_idxStr {t : TypeId} {x y : Operand} {s : ByteArray} {k : IntKind} {m : Int} (ho : o.op = .index t x y) (hx : ρ x = .string s) (hy : ρ y = .int k m) (hu : P.underlying t = some .string) (h0 : 0 ≤ m) (h1 : m < s.size) :
    (execOp ρ o).run P w = .ok (.value (.int .u8 (byteAt s m))) w := by
  unfold execOp; rw [ho]
  have hlt : m.toNat < s.size := by omega
  have e : s[m.toNat]? = some s[m.toNat] := ByteArray.getElem?_lt' s _ hlt
  have hlt' : m.toNat < s.data.size := hlt
  have e2 : (s.data.toList.getD m.toNat 0) = s[m.toNat] := by
    rw [List.getD, List.getElem?_eq_getElem (by simpa using hlt')]; rfl
  unfold byteAt
  rw [e2]
  simp [hx, hy, Instr.index, asIntOf, run_underlying hu, h0, e]
theorem v_subStr {t : TypeId} {x y z : Operand} {s : ByteArray} {k k' : IntKind} {m l : Int} (ho : o.op = .slice t x (some y) (some z) none) (hx : ρ x = .string s) (hy : ρ y = .int k m) (hz : ρ z = .int k' l) (hu : P.underlying t = some .string) (h0 : 0 ≤ m) (h1 : m ≤ l) (h2 : l ≤ s.size) :
    (execOp ρ o).run P w = .ok (.value (.string (s.extract m.toNat l.toNat))) w := by
  unfold execOp; rw [ho]
  have h3 : 0 ≤ l := by omega
  simp [hx, hy, hz, Instr.sliceAt, Instr.slice, Instr.sliceBounds, Instr.sliceBound, asIntOf, run_underlying hu, h0, h2, h3]
  intro h4
  omega

/-! ### slices that the call makes -/
/-- what append and make ask of an element's type -/
def EI (P : Program) (e size bytes : Nat) : Prop := ∃ i z, P.info? e = some i ∧ i.zero = some z ∧ i.size = size ∧ i.bytes = bytes ∧ z.cells.size = size ∧ 0 < size ∧ 0 < bytes
theorem ei_of {e size bytes : Nat} {z : Value} (h : (P.info? e).map (fun i => (i.zero, i.size, i.bytes)) = some (some z, size, bytes)) (hz : z.cells.size = size) (h0 : Nat.blt 0 size = true) (h1 : Nat.blt 0 bytes = true) : EI P e size bytes := by
  obtain ⟨i, hi, hzz⟩ := Option.map_eq_some_iff.1 h
  simp only [Prod.mk.injEq] at hzz
  rw [blt_iff] at h0 h1
  exact ⟨i, z, hi, hzz.1, hzz.2.1, hzz.2.2, hz, by simpa using h0, by simpa using h1⟩

theorem run_append_new {t ty e size bytes : Nat} {v : Value} {k m c base : Nat} {ad : Addr} {xs news : List Value} (ei : EI P e size bytes) (ht : P.underlying t = some (.slice e)) (hown : w.ownsRow base e size v k xs)
    (hl : news.length = m * size) (hnews : ∀ j u, news[j]? = some u → w.cell? (ad.add j) = some u) (h1 : ∀ u ∈ news, u.oneCell' = true) (hb : (k + m) * bytes ≤ 140737488355328) (hbase : base ≤ w.heap.size) :
    ∃ v' w', (Builtin.append_ #[t, t] ty #[v, .slice (some ad) m c]).run P w = .ok v' w' ∧ w'.ownsRow base e size v' (k + m) (xs ++ news) ∧ w.grownBy w' v.ownBlock ∧
      (∀ q, v'.ownBlock = some q → v.ownBlock = some q ∨ w.heap.size ≤ q) := by
  obtain ⟨i, z, hi, hz, hsz, hby, hzs, hp, hpb⟩ := ei
  have hle : k + m ≤ (k + m) * bytes := Nat.le_mul_of_pos_right _ hpb
  obtain ⟨v', w', hrun, hrow, hgr, hnil⟩ := run_append_own (P := P) w base t ty e i z size bytes ht hi hz hsz hby hzs hp v k xs hown ad m c news hl hnews h1 (by unfold maxLen; omega) hb hbase
  refine ⟨v', w', hrun, hrow, hgr, ?_⟩
  intro q hq
  subst hsz
  subst hby
  rcases hown.2 with ⟨rfl, rfl⟩ | ⟨g, cap, cur, rfl, hbg, hg, hnc, hcm, hcs, htake⟩
  · by_cases hm : m = 0
    · rw [hnil.2 ⟨rfl, hm⟩] at hq
      simp [Value.ownBlock] at hq
    · have hr := run_append_nil (P := P) w t ty e i z ht hi hz ad m c news hl hnews (by omega) (by omega) (by simp only [Nat.zero_add] at hb; omega)
      rw [hr] at hrun
      cases hrun
      simp only [Value.ownBlock, Option.some.injEq] at hq
      exact .inr (by omega)
  · by_cases hroom : k + m ≤ cap
    · have hfit : k * i.size + news.length ≤ cur.size := by rw [hl, hcs, ← Nat.add_mul]; exact Nat.mul_le_mul_right _ hroom
      have hr := run_append_room (P := P) w t ty e i ht hi g k cap cur hg ad m c news hl hnews h1 hroom hfit
      rw [hr] at hrun
      cases hrun
      exact .inl hq
    · have holds : ∀ j u, xs[j]? = some u → w.cell? ((⟨g, 0, none⟩ : Addr).add j) = some u := hown.cells (g := g) rfl
      have hr := run_append_grow (P := P) w t ty e i z ht hi hz ⟨g, 0, none⟩ k cap xs hown.1 holds ad m c news hl hnews (by omega) (by omega) (growslice_fits (by omega) hb)
      rw [hr] at hrun
      cases hrun
      simp only [Value.ownBlock, Option.some.injEq] at hq
      exact .inr (by omega)

/-- append to the first of the call's own slices -/
theorem s_append' {s x : Operand} {t e size bytes : Nat} {v : Value} {k m c d : Nat} {ad : Addr} {xs news : List Value} (cx : Cxr w0 w L (⟨e, size, v, k, xs⟩ :: R)) (ei : EI P e size bytes) (ht : P.underlying t = some (.slice e))
    (hg : o.guard = none) (hd : o.dst = some d) (ho : o.op = .call { callee := .builtin .append, args := #[s, x], argTypes := #[t, t] }) (hs : ev n f s = v) (hx : ev n f x = .slice (some ad) m c)
    (hr : ∀ j u, news[j]? = some u → w.cell? (ad.add j) = some u) (hl : news.length = m * size) (h1 : news.all (·.oneCell') = true) (hb : (k + m) * bytes ≤ 140737488355328)
    (h : ∀ v' w', Cxr w0 w' L (⟨e, size, v', k + m, xs ++ news⟩ :: R) → w.grownBy w' v.ownBlock → wpList P ops Q rest (St n (upd f d v')) w') : wpList P ops Q (o :: rest) (St n f) w := by
  have hrow0 := cx.rows _ (List.mem_cons_self ..)
  have hoff0 := cx.off _ (List.mem_cons_self ..)
  have hpw0 := (List.pairwise_cons.1 cx.pw).1
  simp only at hrow0 hoff0
  obtain ⟨v', w', hrun, hrow, hgr, hnew⟩ := run_append_new (P := P) (ty := o.type) (c := c) (ad := ad) ei ht hrow0 hl hr (by simpa using h1) hb cx.ext.size
  have hcx0 : Cxr w0 w' L R := by
    refine ⟨cx.ext.grown hgr cx.ext.size (fun k hk => (hrow0.lt k hk).1), ?_, cx.lo, cx.nd, ?_, fun r hr => cx.off r (List.mem_cons_of_mem _ hr), (List.pairwise_cons.1 cx.pw).2⟩
    · intro p hp'
      rw [hgr.block p.1 (cx.lt p hp') (fun e => hoff0 p.1 e.symm (List.mem_map.2 ⟨p, hp', rfl⟩))]
      exact cx.own p hp'
    · intro r hr
      refine cx.row_keep (List.mem_cons_of_mem _ hr) hgr.os hgr.tape hgr.output hgr.size fun q hq hv => hgr.block q hq fun e => ?_
      exact hpw0 r hr q e.symm hv
  refine s_new (w' := w') (v := v') hg hd ?_ (h v' w' (hcx0.addRow _ hrow ?_ ?_) hgr)
  · unfold execOp; rw [ho]
    simp [resolve, invoke, builtin, hs, hx, hrun, Result.andThen]
  · intro q hq hm
    obtain ⟨p, hp', rfl⟩ := List.mem_map.1 hm
    rcases hnew _ hq with h2 | h2
    · exact hoff0 _ h2 (List.mem_map.2 ⟨p, hp', rfl⟩)
    · have := cx.lt p hp'; omega
  · intro r hr q hq hq'
    rcases hnew _ hq with h2 | h2
    · exact hpw0 r hr q h2 hq'
    · have := ((cx.rows r (List.mem_cons_of_mem _ hr)).lt _ hq').2; omega

theorem s_append {s x : Operand} {t e size bytes : Nat} {v : Value} {k m c b off d : Nat} {xs news : List Value} (cx : Cxr w0 w L (⟨e, size, v, k, xs⟩ :: R)) (ei : EI P e size bytes) (ht : P.underlying t = some (.slice e))
    (hg : o.guard = none) (hd : o.dst = some d) (ho : o.op = .call { callee := .builtin .append, args := #[s, x], argTypes := #[t, t] }) (hs : ev n f s = v) (hx : ev n f x = .slice (some ⟨b, off, none⟩) m c)
    (hr : RowAt w b off news) (hl : news.length = m * size) (h1 : news.all (·.oneCell') = true) (hb : (k + m) * bytes ≤ 140737488355328)
    (h : ∀ v' w', Cxr w0 w' L (⟨e, size, v', k + m, xs ++ news⟩ :: R) → w.grownBy w' v.ownBlock → wpList P ops Q rest (St n (upd f d v')) w') : wpList P ops Q (o :: rest) (St n f) w :=
  s_append' cx ei ht hg hd ho hs hx (fun j u hj => by rw [add_addr]; exact hr j u hj) hl h1 hb h

/-- nothing is appended: the source is nil -/
theorem s_append0 {s x : Operand} {t e size bytes : Nat} {v : Value} {k d : Nat} {xs : List Value} (cx : Cxr w0 w L (⟨e, size, v, k, xs⟩ :: R)) (ei : EI P e size bytes) (ht : P.underlying t = some (.slice e))
    (hg : o.guard = none) (hd : o.dst = some d) (ho : o.op = .call { callee := .builtin .append, args := #[s, x], argTypes := #[t, t] }) (hs : ev n f s = v) (hx : ev n f x = .slice none 0 0)
    (h : wpList P ops Q rest (St n (upd f d v)) w) : wpList P ops Q (o :: rest) (St n f) w := by
  obtain ⟨i, z, hi, hz, hsz, hby, hzs, hp, hpb⟩ := ei
  have hrun := run_append_owned_none (P := P) w w0.heap.size t o.type e i size ht hi v k xs (cx.rows _ (List.mem_cons_self ..))
  refine s_val (v := v) hg hd ?_ h
  unfold execOp; rw [ho]
  simp [resolve, invoke, builtin, hs, hx, hrun, Result.andThen]

theorem fold_set (c : List Value) : ∀ (i : Nat) (z : Array Value), z.size = i + c.length → ((c.zipIdx i).foldl (fun cs (p : Value × Nat) => cs.setIfInBounds p.2 p.1) z) = (z.toList.take i ++ c).toArray := by
  induction c with
  | nil =>
    intro i z h
    simp at h
    apply Array.ext'
    simp only [← h, List.append_nil]
    rw [List.take_of_length_le (by simp)]
    simp
  | cons x c ih =>
    intro i z h
    simp only [List.zipIdx_cons, List.foldl_cons]
    rw [ih (i + 1) _ (by simp at h ⊢; omega)]
    congr 1
    simp at h
    have hi : i < z.toList.length := by simp; omega
    rw [Array.toList_setIfInBounds, List.set_eq_take_append_cons_drop, if_pos hi]
    have h1 : (List.take i z.toList).length = i := by simp; omega
    rw [List.take_append, h1, List.take_take, Nat.min_eq_right (by omega)]
    simp

/-- a slice of one element, made by the call -/
theorem s_bsl1 {t e size d : Nat} {x : Operand} {v : Value} {cs zs : List Value} (cx : Cxr w0 w L R) (ht : P.underlying t = some (.slice e)) (hs : (P.info? e).map (·.size) = some size) (hz : Zero P e zs) (hsm : Nat.ble size 1000 = true) (hp : Nat.blt 0 size = true)
    (hg : o.guard = none) (hd : o.dst = some d) (ho : o.op = .buildSlice t 1 #[(0, x)]) (hx : ev n f x = v) (hv : v.cells = cs.toArray) (hl : cs.length = size)
    (h : ∀ b w', Cxr w0 w' ((b, .cells cs.toArray e) :: L) R → w.heap.size = b → Below w.heap.size w w' → wpList P ops Q rest (St n (upd f d (.slice (some ⟨b, 0, none⟩) 1 1))) w') : wpList P ops Q (o :: rest) (St n f) w := by
  obtain ⟨z, hz1, hz2⟩ := hz
  have hp' : 0 < size := by simpa [blt_iff] using hp
  have hsm' : size ≤ 1000 := Nat.le_of_ble_eq_true hsm
  refine s_new (w' := w.alloc (.cells cs.toArray e)) (v := .slice (some ⟨w.heap.size, 0, none⟩) 1 1) hg hd ?_ (h _ _ (cx.alloc _) rfl ((Below.refl _ _).alloc (Nat.le_refl _) _))
  have hfill : Instr.fill (fun i => some (i * size, size)) ((Array.range (1 * size)).map (z.cells[· % z.cells.size]!)) [(0, v)] = some cs.toArray := by
    have hsz : ((Array.range (1 * size)).map (z.cells[· % z.cells.size]!)).size = size := by simp
    generalize (Array.range (1 * size)).map (z.cells[· % z.cells.size]!) = zz at hsz
    have := fold_set cs 0 zz (by omega)
    have hvs : v.cells.size = size := by rw [hv]; simpa using hl
    simp only [Instr.fill, Nat.zero_mul, Nat.zero_add, hvs, hsz]
    simp only [hv]
    simp at this ⊢
    exact this
  unfold execOp; rw [ho]
  have h0 : ¬ (size = 0) := by omega
  have h1 : ¬ (16777216 < size) := by omega
  simp only [Nat.one_mul] at hfill
  simp [Instr.buildSlice, hx, run_underlying ht, run_size (w := w) hs, h0, h1, hz1 w, hfill, newRow]

theorem s_bsl0 {t e size d : Nat} (cx : Cxr w0 w L R) (ht : P.underlying t = some (.slice e)) (hs : (P.info? e).map (·.size) = some size) (hg : o.guard = none) (hd : o.dst = some d) (ho : o.op = .buildSlice t 0 #[])
    (h : ∀ b w', Cxr w0 w' ((b, .cells #[] e) :: L) R → w.heap.size = b → Below w.heap.size w w' → wpList P ops Q rest (St n (upd f d (.slice (some ⟨b, 0, none⟩) 0 0))) w') : wpList P ops Q (o :: rest) (St n f) w := by
  refine s_new (w' := w.alloc (.cells #[] e)) (v := .slice (some ⟨w.heap.size, 0, none⟩) 0 0) hg hd ?_ (h _ _ (cx.alloc _) rfl ((Below.refl _ _).alloc (Nat.le_refl _) _))
  unfold execOp; rw [ho]
  have e0 : Array.map (fun _ : Nat => (default : Value)) (Array.range 0) = #[] := by simp [Array.range]
  simp [Instr.buildSlice, run_underlying ht, run_size (w := w) hs, Instr.fill, newRow, e0]

/-- a slice of up to four one-cell elements, all given -/
theorem s_bsl2 {t e d : Nat} {x y : Operand} {v u : Value} {z : Value} (cx : Cxr w0 w L R) (ht : P.underlying t = some (.slice e)) (hs : (P.info? e).map (·.size) = some 1) (hz : Zero P e [z])
    (hg : o.guard = none) (hd : o.dst = some d) (ho : o.op = .buildSlice t 2 #[(0, x), (1, y)]) (hx : ev n f x = v) (hy : ev n f y = u) (hv : v.cells = #[v]) (hu : u.cells = #[u])
    (h : ∀ b w', Cxr w0 w' ((b, .cells #[v, u] e) :: L) R → w.heap.size = b → Below w.heap.size w w' → wpList P ops Q rest (St n (upd f d (.slice (some ⟨b, 0, none⟩) 2 2))) w') : wpList P ops Q (o :: rest) (St n f) w := by
  obtain ⟨zv, hz1, hz2⟩ := hz
  refine s_new (w' := w.alloc (.cells #[v, u] e)) (v := .slice (some ⟨w.heap.size, 0, none⟩) 2 2) hg hd ?_ (h _ _ (cx.alloc _) rfl ((Below.refl _ _).alloc (Nat.le_refl _) _))
  unfold execOp; rw [ho]
  simp [Instr.buildSlice, hx, hy, run_underlying ht, run_size (w := w) hs, hz1 w, hz2, Instr.fill, hv, hu, newRow, Array.range, Array.zipIdx]
  rfl
theorem s_bsl3 {t e d : Nat} {x y y' : Operand} {v u u' : Value} {z : Value} (cx : Cxr w0 w L R) (ht : P.underlying t = some (.slice e)) (hs : (P.info? e).map (·.size) = some 1) (hz : Zero P e [z])
    (hg : o.guard = none) (hd : o.dst = some d) (ho : o.op = .buildSlice t 3 #[(0, x), (1, y), (2, y')]) (hx : ev n f x = v) (hy : ev n f y = u) (hy' : ev n f y' = u') (hv : v.cells = #[v]) (hu : u.cells = #[u]) (hu' : u'.cells = #[u'])
    (h : ∀ b w', Cxr w0 w' ((b, .cells #[v, u, u'] e) :: L) R → w.heap.size = b → Below w.heap.size w w' → wpList P ops Q rest (St n (upd f d (.slice (some ⟨b, 0, none⟩) 3 3))) w') : wpList P ops Q (o :: rest) (St n f) w := by
  obtain ⟨zv, hz1, hz2⟩ := hz
  refine s_new (w' := w.alloc (.cells #[v, u, u'] e)) (v := .slice (some ⟨w.heap.size, 0, none⟩) 3 3) hg hd ?_ (h _ _ (cx.alloc _) rfl ((Below.refl _ _).alloc (Nat.le_refl _) _))
  unfold execOp; rw [ho]
  simp [Instr.buildSlice, hx, hy, hy', run_underlying ht, run_size (w := w) hs, hz1 w, hz2, Instr.fill, hv, hu, hu', newRow, Array.range, Array.zipIdx]
  rfl
theorem s_bsl4 {t e d : Nat} {x y y' y'' : Operand} {v u u' u'' : Value} {z : Value} (cx : Cxr w0 w L R) (ht : P.underlying t = some (.slice e)) (hs : (P.info? e).map (·.size) = some 1) (hz : Zero P e [z])
    (hg : o.guard = none) (hd : o.dst = some d) (ho : o.op = .buildSlice t 4 #[(0, x), (1, y), (2, y'), (3, y'')]) (hx : ev n f x = v) (hy : ev n f y = u) (hy' : ev n f y' = u') (hy'' : ev n f y'' = u'') (hv : v.cells = #[v]) (hu : u.cells = #[u]) (hu' : u'.cells = #[u']) (hu'' : u''.cells = #[u''])
    (h : ∀ b w', Cxr w0 w' ((b, .cells #[v, u, u', u''] e) :: L) R → w.heap.size = b → Below w.heap.size w w' → wpList P ops Q rest (St n (upd f d (.slice (some ⟨b, 0, none⟩) 4 4))) w') : wpList P ops Q (o :: rest) (St n f) w := by
  obtain ⟨zv, hz1, hz2⟩ := hz
  refine s_new (w' := w.alloc (.cells #[v, u, u', u''] e)) (v := .slice (some ⟨w.heap.size, 0, none⟩) 4 4) hg hd ?_ (h _ _ (cx.alloc _) rfl ((Below.refl _ _).alloc (Nat.le_refl _) _))
  unfold execOp; rw [ho]
  simp [Instr.buildSlice, hx, hy, hy', hy'', run_underlying ht, run_size (w := w) hs, hz1 w, hz2, Instr.fill, hv, hu, hu', hu'', newRow, Array.range, Array.zipIdx]
  rfl

/-- a string out of bytes in memory -/
def strOf (ns : List Int) : ByteArray := ns.foldl (fun r n => r.push (UInt8.ofNat n.toNat)) ByteArray.empty
theorem v_b2s {s t e : TypeId} {x : Operand} {b off c : Nat} {ns : List Int} (ho : o.op = .convert s t x) (hs : P.underlying s = some (.slice e)) (he : P.underlying e = some (.int .u8)) (ht : P.underlying t = some .string)
    (hr : RowAt w b off (ns.map (Value.int .u8))) {m : Nat} (hm : ns.length = m) (hx : ρ x = .slice (some ⟨b, off, none⟩) m c) : (execOp ρ o).run P w = .ok (.value (.string (strOf ns))) w := by
  unfold execOp; rw [ho]
  subst hm
  have hl := run_loadCells_list (P := P) w ⟨b, off, none⟩ (ns.map (Value.int .u8)) (fun j v hv => by rw [add_addr]; exact hr j v hv)
  simp only [List.length_map] at hl
  have := run_bytesToString (P := P) w ⟨b, off, none⟩ ns.length c ns hl
  simp [hx, run_convert_bytes_string w s t e _ _ _ hs he ht, this, strOf]
end

/-- where ways meet again -/
theorem w_cut {P : Program} {x y : Code} {Q : Exit → Act → World → Prop} {n : Nat} {f : Nat → Value} {w : World} (J : (Nat → Value) → World → Prop)
    (h1 : x.wp P (Exit.then (fun a w => ∃ f, a = St n f ∧ J f w) Q) (St n f) w) (h2 : ∀ f w, J f w → y.wp P Q (St n f) w) : (Code.seq x y).wp P Q (St n f) w := by
  refine wp_seq (wp_mono h1 ?_)
  intro e a w hq
  cases e with
  | normal =>
    obtain ⟨f', rfl, hJ⟩ := hq
    exact h2 f' w hJ
  | _ => exact hq
theorem c_split {P : Program} {x y : Code} {Q : Exit → Act → World → Prop} {n : Nat} {f : Nat → Value} {w : World} {t : Nat} {b : Bool} (hc : ev n f (.tmp t) = .bool b) (ht : b = true → x.wp P Q (St n f) w) (hf : b = false → y.wp P Q (St n f) w) :
    (Code.cond (.tmp t) x y).wp P Q (St n f) w := wp_cond_split (by rw [eval_St]; exact hc) ht hf
theorem cons_eq {a b : Value} {l l' : List Value} (h : a = b) (t : l = l') : a :: l = b :: l' := by rw [h, t]
end Go.Dk
