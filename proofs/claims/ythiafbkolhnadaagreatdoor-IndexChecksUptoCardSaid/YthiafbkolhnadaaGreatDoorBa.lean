/-
  Proof steps for walking straight-line operations with a frame that is a function of the slot; no program in sight.
-/
import Derived.WalkKit
import Derived.WalkSpells
import Derived.WalkLawsBesides
set_option linter.unusedVariables false
namespace Go.Dk
open Go Go.RowKit

/-- the frame with one slot written -/
def upd (f : Nat → Value) (d : Nat) (v : Value) : Nat → Value := fun i => bif Nat.beq i d then v else f i
/-- the frame that a call begins with -/
def ofL : List Value → Nat → Value
  | [], _ => undef
  | x :: _, 0 => x
  | _ :: l, i + 1 => ofL l i
def St (n : Nat) (f : Nat → Value) : Act := ⟨Array.ofFn (n := n) fun i => f i.val, []⟩
def ev (n : Nat) (f : Nat → Value) : Operand → Value
  | .tmp t => bif Nat.blt t n then f t else undef
  | .const v => v
  | .global g => .pointer (some ⟨g, 0, none⟩)
  | .func k => .func (.func k) #[] #[]

theorem blt_iff (a b : Nat) : Nat.blt a b = decide (a < b) := by
  rw [Bool.eq_iff_iff]; simp [Nat.blt_eq]

theorem upd_eq (f : Nat → Value) (d : Nat) (v : Value) (i : Nat) : upd f d v i = if i = d then v else f i := by
  unfold upd
  cases h : Nat.beq i d
  · have h' : i ≠ d := by intro e; rw [e, Nat.beq_refl] at h; cases h
    simp [h']
  · have h' : i = d := Nat.eq_of_beq_eq_true h
    simp [h']

theorem eval_St (n : Nat) (f : Nat → Value) : (St n f).eval = ev n f := by
  funext x
  cases x with
  | tmp t =>
    show (St n f).tmps.getD t undef = bif Nat.blt t n then f t else undef
    rw [blt_iff]
    unfold St
    by_cases h : t < n <;> simp [h, Array.getD]
  | _ => rfl

theorem put_St (n : Nat) (f : Nat → Value) (d : Nat) (v : Value) : (St n f).put (some d) v = St n (upd f d v) := by
  simp only [Act.put, St]
  congr 1
  apply Array.ext
  · simp
  · intro i h1 h2
    have hi : i < n := by simpa using h2
    rw [Array.getElem_ofFn]
    simp only [upd_eq]
    by_cases hd : i = d
    · subst hd; simp
    · rw [if_neg hd, Array.getElem_setIfInBounds_ne (by simpa using hi) (Ne.symm hd), Array.getElem_ofFn]

theorem put_none (n : Nat) (f : Nat → Value) (v : Value) : (St n f).put none v = St n f := rfl

theorem enter_St (l : List Value) (n : Nat) (h : l.length ≤ n) :
    ({ tmps := l.toArray ++ Array.replicate (n - l.toArray.size) undef, defers := [] } : Act) = St n (ofL l) := by
  have key : ∀ (l : List Value) (i : Nat), ofL l i = l.getD i undef := by
    intro l
    induction l with
    | nil => intro i; simp [ofL]
    | cons x l ih => intro i; cases i with
      | zero => simp [ofL]
      | succ i => simp [ofL, ih]
  simp only [St]
  congr 1
  apply Array.ext
  · simp; omega
  · intro i h1 h2
    simp only [Array.getElem_ofFn, key, Array.getElem_append]
    simp at h1 h2
    by_cases hi : i < l.length
    · simp [hi, List.getD]
    · simp [hi, List.getD]

/-- a contract: the call returns, and what it returns and leaves is as R says -/
def Ret (P : Program) (k : FuncId) (args : List Value) (w : World) (R : Value → World → Prop) : Prop :=
  Calls P k args.toArray w fun e w' => ∃ v, e = .returned v ∧ R v w'

theorem Ret.mono {P : Program} {k : FuncId} {args : List Value} {w : World} {R R' : Value → World → Prop} (h : Ret P k args w R) (hr : ∀ v w', R v w' → R' v w') : Ret P k args w R' :=
  Calls.mono h fun _ _ ⟨v, he, hv⟩ => ⟨v, he, hr _ _ hv⟩

theorem ret_enter {P : Program} {k : FuncId} {fn : Func} {c : Code} {l : List Value} {n : Nat} {w : World} {R : Value → World → Prop}
    (hf : P.funcs[k]? = some fn) (hb : fn.body = some c) (hn : fn.ntmps = n) (hl : Nat.ble l.length n = true)
    (h : c.wp P (bodyPost P fn fun e w' => ∃ v, e = .returned v ∧ R v w') (St n (ofL l)) w) : Ret P k l w R := by
  refine calls_of_wp hf hb ?_
  rw [hn, enter_St l n (Nat.le_of_ble_eq_true hl)]
  exact h

/-- the end of a body: one result in a slot -/
theorem ret_tmp {P : Program} {fn : Func} {R : Value → World → Prop} {n : Nat} {f : Nat → Value} {w : World} {t : Nat} {v : Value}
    (hr : fn.results = #[.tmp t]) (hv : ev n f (.tmp t) = v) (h : R v w) : bodyPost P fn (fun e w' => ∃ v, e = .returned v ∧ R v w') .ret (St n f) w := by
  refine ⟨rfl, v, ?_, v, rfl, h⟩
  rw [results_tmp hr]
  rw [← hv, ← eval_St]; rfl
theorem ret_tmp2 {P : Program} {fn : Func} {R : Value → World → Prop} {n : Nat} {f : Nat → Value} {w : World} {t u : Nat} {v x : Value}
    (hr : fn.results = #[.tmp t, .tmp u]) (hv : ev n f (.tmp t) = v) (hx : ev n f (.tmp u) = x) (h : R (.tuple #[v, x]) w) : bodyPost P fn (fun e w' => ∃ v, e = .returned v ∧ R v w') .ret (St n f) w := by
  refine ⟨rfl, _, ?_, _, rfl, h⟩
  rw [results_tmp2 hr]
  rw [← hv, ← hx, ← eval_St]; rfl

/-! ### one operation of a plain region -/
section
variable {P : Program} {ops : Array Oper} {Q : Exit → Act → World → Prop} {rest : List Oper} {o : Oper} {n : Nat} {f : Nat → Value} {w : World}

theorem s_run {w' : World} {v : Value} (hg : o.guard = none) (hv : (execOp (ev n f) o).run P w = .ok (.value v) w')
    (h : wpList P ops Q rest ((St n f).put o.dst v) w') : wpList P ops Q (o :: rest) (St n f) w := by
  refine wpList_plain hg fun K hK => ?_
  unfold Oper.wp
  rw [eval_St, hv]
  exact hK _ _ h

/-- an operation that yields a value and leaves the world alone -/
theorem s_val {v : Value} {d : Nat} (hg : o.guard = none) (hd : o.dst = some d) (hv : (execOp (ev n f) o).run P w = .ok (.value v) w)
    (h : wpList P ops Q rest (St n (upd f d v)) w) : wpList P ops Q (o :: rest) (St n f) w :=
  s_run hg hv (by rw [hd, put_St]; exact h)
/-- an operation that yields a value and leaves another world -/
theorem s_new {w' : World} {v : Value} {d : Nat} (hg : o.guard = none) (hd : o.dst = some d) (hv : (execOp (ev n f) o).run P w = .ok (.value v) w')
    (h : wpList P ops Q rest (St n (upd f d v)) w') : wpList P ops Q (o :: rest) (St n f) w :=
  s_run hg hv (by rw [hd, put_St]; exact h)
theorem s_put {w' : World} (hg : o.guard = none) (hd : o.dst = none) (hv : (execOp (ev n f) o).run P w = .ok .skip w')
    (h : wpList P ops Q rest (St n f) w') : wpList P ops Q (o :: rest) (St n f) w := by
  refine wpList_plain hg fun K hK => ?_
  unfold Oper.wp
  rw [eval_St, hv]
  refine hK _ _ ?_
  rw [hd]
  exact h

/-- a value that is there only where the guard let the operation run -/
def gv (c : Bool) (v : Value) : Value := bif c then v else undef
theorem gv_true (v : Value) : gv true v = v := rfl
theorem gve {c : Bool} {x v : Value} (hc : c = true) (h : x = gv c v) : x = v := by rw [h, hc]; rfl
theorem and_l {a b : Bool} (h : (a && b) = true) : a = true := by cases a <;> simp_all
theorem and_r {a b : Bool} (h : (a && b) = true) : b = true := by cases a <;> simp_all

attribute [irreducible] gv
def WantB (v : Value) (pol c : Bool) : Prop := (match v with | .bool b => b == pol | _ => false) = c
theorem w_tt {x : Value} {b : Bool} (h : x = .bool b) : WantB x true b := by subst h; cases b <;> rfl
theorem w_ff {x : Value} {b : Bool} (h : x = .bool b) : WantB x false (!b) := by subst h; cases b <;> rfl
theorem w_gt {x : Value} {c b : Bool} (h : x = gv c (.bool b)) : WantB x true (c && b) := by subst h; unfold gv; cases b <;> cases c <;> rfl
theorem w_gf {x : Value} {c b : Bool} (h : x = gv c (.bool b)) : WantB x false (c && !b) := by subst h; unfold gv; cases b <;> cases c <;> rfl

theorem wanted_St {j dj : Nat} {pol c : Bool} (hg : o.guard = some (j, pol)) (hj : (ops[j]?).bind (·.dst) = some dj) (hc : WantB (ev n f (.tmp dj)) pol c) :
    Region.wanted o (yielded ops (St n f).tmps) = c := by
  have hy : (St n f).tmps[dj]? = if dj < n then some (f dj) else none := by
    by_cases h : dj < n <;> simp [St, h]
  unfold Region.wanted yielded
  rw [hg]
  simp only [hj, Option.bind_some, hy]
  unfold WantB at hc
  rw [← hc]
  show _ = (match (bif Nat.blt dj n then f dj else undef) with | .bool b => b == pol | _ => false)
  rw [blt_iff]
  by_cases h : dj < n
  · simp only [h, if_true, decide_true, cond_true]
    cases f dj <;> simp
  · simp only [h, if_false, decide_false, cond_false]
    simp [undef]

theorem s_gval {v : Value} {j d dj : Nat} {pol c : Bool} (hg : o.guard = some (j, pol)) (hd : o.dst = some d) (hj : (ops[j]?).bind (·.dst) = some dj) (hc : WantB (ev n f (.tmp dj)) pol c)
    (hv : c = true → (execOp (ev n f) o).run P w = .ok (.value v) w) (h : wpList P ops Q rest (St n (upd f d (gv c v))) w) : wpList P ops Q (o :: rest) (St n f) w := by
  have hw := wanted_St (o := o) (ops := ops) hg hj hc
  refine wpList_step fun K hK => ?_
  rw [hw]
  cases c with
  | true =>
    simp only [if_true]
    unfold Oper.wp
    rw [eval_St, hv rfl]
    refine hK _ _ ?_
    rw [hd, put_St]
    unfold gv at h
    exact h
  | false =>
    simp only [Bool.false_eq_true, if_false]
    refine hK _ _ ?_
    rw [hd, put_St]
    unfold gv at h
    exact h

/-! ### what operations yield -/
variable {ρ : Operand → Value} {a : Operand}
theorem v_move {x : Operand} {v : Value} (ho : o.op = .move x) (hx : ρ x = v) : (execOp ρ o).run P w = .ok (.value v) w := by
  unfold execOp; rw [ho]; simp [hx]
theorem v_assign {x : Operand} {v : Value} (ho : o.op = .assign x) (hx : ρ x = v) : (execOp ρ o).run P w = .ok (.value v) w := by
  unfold execOp; rw [ho]; simp [hx]
theorem v_or {c x y : Operand} {p q : Bool} (ho : o.op = .pick c x y) (hc : ρ c = .bool p) (hx : ρ x = .bool true) (hy : ρ y = gv (!p) (.bool q)) : (execOp ρ o).run P w = .ok (.value (.bool (p || q))) w := by
  unfold execOp; rw [ho]; simp only [hc, hx, hy, asBool]; cases p <;> simp [gv]
theorem v_and {c x y : Operand} {p q : Bool} (ho : o.op = .pick c x y) (hc : ρ c = .bool p) (hx : ρ x = gv p (.bool q)) (hy : ρ y = .bool false) : (execOp ρ o).run P w = .ok (.value (.bool (p && q))) w := by
  unfold execOp; rw [ho]; simp only [hc, hx, hy, asBool]; cases p <;> simp [gv]
theorem v_or_g {c x y : Operand} {p q g : Bool} (hg : g = true) (ho : o.op = .pick c x y) (hc : ρ c = gv g (.bool p)) (hx : ρ x = .bool true) (hy : ρ y = gv (g && !p) (.bool q)) : (execOp ρ o).run P w = .ok (.value (.bool (p || q))) w :=
  v_or ho (gve hg hc) hx (by rw [hy, hg, Bool.true_and])
theorem v_and_g {c x y : Operand} {p q g : Bool} (hg : g = true) (ho : o.op = .pick c x y) (hc : ρ c = gv g (.bool p)) (hx : ρ x = gv (g && p) (.bool q)) (hy : ρ y = .bool false) : (execOp ρ o).run P w = .ok (.value (.bool (p && q))) w :=
  v_and ho (gve hg hc) (by rw [hx, hg, Bool.true_and]) hy

theorem v_cmp {op : BinOp} {t t' : TypeId} {x y : Operand} {k : IntKind} {p q : Int} {b : Bool} (ho : o.op = .binOp op t x y t') (hx : ρ x = .int k p) (hy : ρ y = .int k q)
    (hop : (match op with | .lss => some (decide (p < q)) | .leq => some (decide (p ≤ q)) | .gtr => some (decide (q < p)) | .geq => some (decide (q ≤ p)) | .eql => some (p == q) | .neq => some (p != q) | _ => none) = some b) :
    (execOp ρ o).run P w = .ok (.value (.bool b)) w := by
  unfold execOp
  rw [ho]
  simp only [hx, hy]
  cases op <;> simp at hop <;> subst hop <;> simp [eqGuard, binOp, Op.intCmp, bne]

theorem v_add {t t' : TypeId} {x y : Operand} {p q : Int} (ho : o.op = .binOp .add t x y t') (hx : ρ x = .int .i64 p) (hy : ρ y = .int .i64 q)
    (h1 : -9223372036854775808 ≤ p + q) (h2 : p + q ≤ 9223372036854775807) : (execOp ρ o).run P w = .ok (.value (.int .i64 (p + q))) w := by
  unfold execOp
  rw [ho]
  have hw : IntKind.i64.wrap (p + q) = p + q := IntWalk.i64_in _ (by omega)
  simp [hx, hy, eqGuard, binOp, Op.intArith, hw]
theorem v_sub {t t' : TypeId} {x y : Operand} {p q : Int} (ho : o.op = .binOp .sub t x y t') (hx : ρ x = .int .i64 p) (hy : ρ y = .int .i64 q)
    (h1 : -9223372036854775808 ≤ p - q) (h2 : p - q ≤ 9223372036854775807) : (execOp ρ o).run P w = .ok (.value (.int .i64 (p - q))) w := by
  unfold execOp
  rw [ho]
  have hw : IntKind.i64.wrap (p - q) = p - q := IntWalk.i64_in _ (by omega)
  simp [hx, hy, eqGuard, binOp, Op.intArith, hw]
theorem v_mul {t t' : TypeId} {x y : Operand} {p q : Int} (ho : o.op = .binOp .mul t x y t') (hx : ρ x = .int .i64 p) (hy : ρ y = .int .i64 q)
    (h1 : -9223372036854775808 ≤ p * q) (h2 : p * q ≤ 9223372036854775807) : (execOp ρ o).run P w = .ok (.value (.int .i64 (p * q))) w := by
  unfold execOp
  rw [ho]
  have hw : IntKind.i64.wrap (p * q) = p * q := IntWalk.i64_in _ ⟨h1, h2⟩
  simp [hx, hy, eqGuard, binOp, Op.intArith, hw]
theorem v_not {t : TypeId} {x : Operand} {b : Bool} (ho : o.op = .unOp .not t x) (hx : ρ x = .bool b) : (execOp ρ o).run P w = .ok (.value (.bool (!b))) w := by
  unfold execOp
  rw [ho]
  simp [hx, Op.unary]
theorem v_extract {x : Operand} {i : Nat} {vs : Array Value} {v : Value} (ho : o.op = .extract x i) (hx : ρ x = .tuple vs) (hv : vs[i]? = some v) : (execOp ρ o).run P w = .ok (.value v) w := by
  unfold execOp
  rw [ho]
  simp [hx, Instr.extract, hv]
theorem v_lenSlice {x : Operand} {t : TypeId} {ad : Option Addr} {l c : Nat} {e : TypeId} (ho : o.op = .call { callee := .builtin .len, args := #[x], argTypes := #[t] }) (hx : ρ x = .slice ad l c) (hu : P.underlying t = some (.slice e)) :
    (execOp ρ o).run P w = .ok (.value (.int .i64 l)) w := by
  unfold execOp
  rw [ho]
  simp [resolve, hx, invoke, builtin, Builtin.len_, goInt, run_underlying hu]
theorem v_lenString {x : Operand} {t : TypeId} {s : ByteArray} (ho : o.op = .call { callee := .builtin .len, args := #[x], argTypes := #[t] }) (hx : ρ x = .string s) (hu : P.underlying t = some .string) :
    (execOp ρ o).run P w = .ok (.value (.int .i64 s.size)) w := by
  unfold execOp
  rw [ho]
  simp [resolve, hx, invoke, builtin, Builtin.len_, goInt, run_underlying hu]
theorem bytes_eq (s u : ByteArray) : (s.toList == u.toList) = decide (s = u) := by
  rw [Bool.eq_iff_iff]
  simp only [beq_iff_eq, decide_eq_true_eq, ByteArray.toList_eq]
  constructor
  · intro h; cases s; cases u; simp at h; simp [h]
  · intro h; rw [h]
theorem v_strEq {t t' : TypeId} {x y : Operand} {s u : ByteArray} (ho : o.op = .binOp .eql t x y t') (hx : ρ x = .string s) (hy : ρ y = .string u) :
    (execOp ρ o).run P w = .ok (.value (.bool (decide (s = u)))) w := by
  unfold execOp
  rw [ho]
  simp [hx, hy, eqGuard, binOp, Op.stringOp, bytes_eq]
theorem v_strNe {t t' : TypeId} {x y : Operand} {s u : ByteArray} (ho : o.op = .binOp .neq t x y t') (hx : ρ x = .string s) (hy : ρ y = .string u) :
    (execOp ρ o).run P w = .ok (.value (.bool (!decide (s = u)))) w := by
  unfold execOp
  rw [ho]
  simp [hx, hy, eqGuard, binOp, Op.stringOp, bytes_eq]

/-! ### memory -/
/-- the cells from offset o of block b on -/
def RowAt (w : World) (b o : Nat) (l : List Value) : Prop := ∀ j x, l[j]? = some x → w.cell? ⟨b, o + j, none⟩ = some x

theorem RowAt.cell {b i : Nat} {l : List Value} {x : Value} (h : RowAt w b i l) (j : Nat) (hj : l[j]? = some x) : w.cell? ⟨b, i + j, none⟩ = some x := h j x hj
theorem add_addr (b i j : Nat) : (⟨b, i, none⟩ : Addr).add j = ⟨b, i + j, none⟩ := by
  unfold Addr.add
  split
  · rename_i h; subst h; rfl
  · rfl

def aggD : TypeDesc → Bool
  | .struct _ | .array _ _ => true
  | _ => false
theorem run_isAgg {t : TypeId} {d : TypeDesc} (hu : P.underlying t = some d) : (isAgg t).run P w = .ok (aggD d) w := by
  unfold isAgg
  rw [Sem.run_bind, run_underlying hu w]
  cases d <;> rfl
theorem run_size {t : TypeId} {k : Nat} (hs : (P.info? t).map (·.size) = some k) : (sizeOf t).run P w = .ok k w := by
  cases h : P.info? t with
  | none => simp [h] at hs
  | some i => simp [h] at hs; simp [sizeOf, typeInfo, h, hs]

theorem v_load1 {x : Operand} {t : TypeId} {d : TypeDesc} {b i : Nat} {v : Value} (ho : o.op = .load t x) (hx : ρ x = .pointer (some ⟨b, i, none⟩)) (hu : P.underlying t = some d) (hd : aggD d = false)
    (hc : w.cell? ⟨b, i, none⟩ = some v) : (execOp ρ o).run P w = .ok (.value v) w := by
  unfold execOp
  rw [ho]
  simp [hx, Instr.loadAt, Instr.sureAddr, loadVar, run_isAgg (w := w) hu, hd, hc]
theorem v_load {x : Operand} {t : TypeId} {d : TypeDesc} {b i : Nat} {l : List Value} (ho : o.op = .load t x) (hx : ρ x = .pointer (some ⟨b, i, none⟩)) (hu : P.underlying t = some d) (hd : aggD d = true)
    {k : Nat} (hs : (P.info? t).map (·.size) = some k) (hc : RowAt w b i l) (hk : l.length = k) : (execOp ρ o).run P w = .ok (.value (.agg l.toArray)) w := by
  unfold execOp
  rw [ho]
  subst hk
  have hl := run_loadCells_list (P := P) w ⟨b, i, none⟩ l (fun j v hv => by rw [add_addr]; exact hc j v hv)
  simp [hx, Instr.loadAt, Instr.sureAddr, loadVar, run_isAgg (w := w) hu, hd, run_size (w := w) hs, hl]

/-- the address of a field -/
def FA (P : Program) (t : TypeId) (i off : Nat) : Prop := ∀ (b k : Nat) (w : World), (Instr.fieldAt t (.pointer (some ⟨b, k, none⟩)) i).run P w = .ok (.pointer (some ⟨b, k + off, none⟩)) w
theorem fa_of {t : TypeId} {i s tt off : Nat} {fs : Array Field} (hu : P.underlying t = some (.struct fs)) (hf : (fs[i]?).map (fun f => (f.type, f.offset)) = some (tt, off)) (hs : (P.info? tt).map (·.size) = some s) (h0 : Nat.blt 0 s = true) : FA P t i off := by
  intro b k w
  have h0' : s ≠ 0 := by intro e; subst e; cases h0
  cases hq : fs[i]? with
  | none => simp [hq] at hf
  | some fl =>
    simp only [hq, Option.map_some, Option.some.injEq, Prod.mk.injEq] at hf
    obtain ⟨rfl, rfl⟩ := hf
    simp [Instr.fieldAt, run_underlying hu, hq, Instr.sureAddr, fieldPlace, run_size (w := w) hs, add_addr, h0']
theorem v_fa {x : Operand} {t : TypeId} {i off b k : Nat} (h : FA P t i off) (ho : o.op = .fieldAddr t x i) (hx : ρ x = .pointer (some ⟨b, k, none⟩)) :
    (execOp ρ o).run P w = .ok (.value (.pointer (some ⟨b, k + off, none⟩))) w := by
  unfold execOp
  rw [ho]
  simp [hx, h b k w]
/-- the address of an element of a slice -/
theorem v_ia {x ix : Operand} {t e : TypeId} {s b k len cap : Nat} {m : Int} {kd : IntKind} (hu : P.underlying t = some (.slice e)) (hs : (P.info? e).map (·.size) = some s) (ho : o.op = .indexAddr t x ix)
    (hx : ρ x = .slice (some ⟨b, k, none⟩) len cap) (hi : ρ ix = .int kd m) (h0 : 0 ≤ m) (h1 : m < len) :
    (execOp ρ o).run P w = .ok (.value (.pointer (some ⟨b, k + m.toNat * s, none⟩))) w := by
  unfold execOp
  rw [ho]
  simp [hx, hi, Instr.indexAt, run_underlying hu, asIntOf, h0, h1, run_size (w := w) hs, add_addr]

end

/-! ### memory of the call's own -/
/-- a slice of the call's own: its value, and the cells of its elements -/
structure Row where
  e : Nat
  size : Nat
  v : Value
  n : Nat
  xs : List Value
/-- w comes after w0, whose blocks are untouched; the listed blocks are w's, and came after w0; the listed slices lie in blocks of their own -/
structure Cxr (w0 w : World) (L : List (Nat × Obj)) (R : List Row) : Prop where
  ext : Below w0.heap.size w0 w
  own : ∀ p ∈ L, w.heap[p.1]? = some p.2
  lo : ∀ p ∈ L, w0.heap.size ≤ p.1
  nd : (L.map (·.1)).Nodup
  rows : ∀ r ∈ R, w.ownsRow w0.heap.size r.e r.size r.v r.n r.xs
  off : ∀ r ∈ R, ∀ k, r.v.ownBlock = some k → k ∉ L.map (·.1)
  pw : R.Pairwise fun r s => ∀ k, r.v.ownBlock = some k → s.v.ownBlock ≠ some k
abbrev Ctx (w0 w : World) (L : List (Nat × Obj)) : Prop := Cxr w0 w L []

theorem Ctx.start (w : World) : Ctx w w [] := ⟨Below.refl _ _, by simp, by simp, by simp, by simp, by simp, by simp⟩
section
variable {w0 w w' : World} {L : List (Nat × Obj)} {R : List Row}
theorem Cxr.lt (h : Cxr w0 w L R) : ∀ p ∈ L, p.1 < w.heap.size := by
  intro p hp
  have := h.own p hp
  rcases Nat.lt_or_ge p.1 w.heap.size with h' | h'
  · exact h'
  · simp [Array.getElem?_eq_none h'] at this
theorem Cxr.at (h : Cxr w0 w L R) (i : Nat) {b : Nat} {o : Obj} (hi : L[i]? = some (b, o)) : w.heap[b]? = some o :=
  h.own (b, o) (List.mem_of_getElem? hi)
/-- the cells of a block of the call's own -/
theorem Cxr.row (h : Cxr w0 w L R) (i : Nat) {b : Nat} {l : List Value} {t : TypeId} {fr : Nat × Nat} (hi : L[i]? = some (b, .cells l.toArray t fr)) : RowAt w b 0 l := by
  intro j x hj
  have := h.at i hi
  rw [cell_of_row w b (0 + j) _ t fr this]
  simpa using hj
theorem Cxr.cell (h : Cxr w0 w L R) (i : Nat) {b j : Nat} {cs : Array Value} {x : Value} {t : TypeId} {fr : Nat × Nat} (hi : L[i]? = some (b, .cells cs t fr)) (hj : cs.toList[j]? = some x) : w.cell? ⟨b, j, none⟩ = some x := by
  have := h.at i hi
  rw [cell_of_row w b j _ t fr this]
  simpa using hj
theorem mem_map_drop {k : Nat} {x : Nat} (h : x ∈ (L.drop k).map (·.1)) : x ∈ L.map (·.1) := by
  obtain ⟨p, hp, rfl⟩ := List.mem_map.1 h
  exact List.mem_map.2 ⟨p, List.mem_of_mem_drop hp, rfl⟩
theorem Cxr.drop (h : Cxr w0 w L R) (k : Nat) : Cxr w0 w (L.drop k) R :=
  ⟨h.ext, fun p hp => h.own p (List.mem_of_mem_drop hp), fun p hp => h.lo p (List.mem_of_mem_drop hp), by
    rw [List.map_drop]; exact (List.drop_sublist k _).nodup h.nd, h.rows, fun r hr k' hk hm => h.off r hr k' hk (mem_map_drop hm), h.pw⟩
/-- rows that are no longer wanted -/
theorem Cxr.dropR (h : Cxr w0 w L R) (k : Nat) : Cxr w0 w L (R.drop k) :=
  ⟨h.ext, h.own, h.lo, h.nd, fun r hr => h.rows r (List.mem_of_mem_drop hr), fun r hr => h.off r (List.mem_of_mem_drop hr), h.pw.sublist (List.drop_sublist k R)⟩
/-- all blocks but one of the call's own, or none, are as they were -/
theorem Cxr.row_keep {r : Row} (h : Cxr w0 w L R) (hr : r ∈ R) (ho : w'.os = w.os) (ht : w'.tape = w.tape) (hu : w'.output = w.output) (hs : w.heap.size ≤ w'.heap.size) (hk : ∀ k, k < w.heap.size → r.v.ownBlock = some k → w'.heap[k]? = w.heap[k]?) :
    w'.ownsRow w0.heap.size r.e r.size r.v r.n r.xs := by
  have hrow := h.rows r hr
  refine ⟨hrow.1, ?_⟩
  rcases hrow.2 with hn | ⟨g, cap, cur, hv, hb, hg, rest⟩
  · exact .inl hn
  · refine .inr ⟨g, cap, cur, hv, hb, ?_, rest⟩
    rw [hk g (Array.getElem?_eq_some_iff.1 hg).1 (by rw [hv]; rfl)]
    exact hg
/-- a callee that leaves all that there was -/
theorem Cxr.call (h : Cxr w0 w L R) (hb : Below w.heap.size w w') : Cxr w0 w' L R :=
  ⟨h.ext.trans (hb.mono h.ext.size), fun p hp => by rw [hb.block p.1 (h.lt p hp)]; exact h.own p hp, h.lo, h.nd,
   fun r hr => h.row_keep hr hb.os hb.tape hb.output hb.size fun k hk _ => hb.block k hk, h.off, h.pw⟩
theorem Cxr.draw (h : Cxr w0 w L R) : Cxr w0 w.drew L R := h.call ⟨rfl, rfl, rfl, Nat.le_refl _, fun _ _ => rfl⟩
theorem Cxr.alloc (h : Cxr w0 w L R) (o : Obj) : Cxr w0 (w.alloc o) ((w.heap.size, o) :: L) R := by
  refine ⟨h.ext.alloc h.ext.size o, ?_, ?_, ?_, ?_, ?_, h.pw⟩
  · intro p hp
    rcases List.mem_cons.1 hp with rfl | hp
    · exact heap_alloc_new w o
    · rw [Below.heap_alloc w o p.1 (h.lt p hp)]; exact h.own p hp
  · intro p hp
    rcases List.mem_cons.1 hp with rfl | hp
    · exact h.ext.size
    · exact h.lo p hp
  · simp only [List.map_cons, List.nodup_cons]
    refine ⟨fun hm => ?_, h.nd⟩
    obtain ⟨p, hp, he⟩ := List.mem_map.1 hm
    have := h.lt p hp
    omega
  · intro r hr
    exact (h.rows r hr).alloc o
  · intro r hr k hk hm
    simp only [List.map_cons, List.mem_cons] at hm
    rcases hm with rfl | hm
    · have := ((h.rows r hr).lt _ hk).2; omega
    · exact h.off r hr k hk hm
/-- one block of the call's own has turned, all else is as it was -/
theorem Cxr.turn (h : Cxr w0 w L R) (i : Nat) {b : Nat} {o o' : Obj} (hi : L[i]? = some (b, o)) (hos : w'.os = w.os) (ht : w'.tape = w.tape) (hou : w'.output = w.output)
    (hsz : w.heap.size ≤ w'.heap.size) (hb : w'.heap[b]? = some o') (hoth : ∀ k, k < w.heap.size → k ≠ b → w'.heap[k]? = w.heap[k]?) : Cxr w0 w' (L.set i (b, o')) R := by
  have hmem := List.mem_of_getElem? hi
  have hlo := h.lo _ hmem
  have hmap : (L.set i (b, o')).map (·.1) = L.map (·.1) := by
    apply List.ext_getElem?
    intro j
    simp only [List.getElem?_map, List.getElem?_set]
    split
    · rename_i he; subst he; simp [hi]; exact (List.getElem?_eq_some_iff.1 hi).1
    · rfl
  refine ⟨h.ext.trans ⟨hos, ht, hou, hsz, fun k hk => hoth k (Nat.lt_of_lt_of_le hk h.ext.size) (by simp at hlo; omega)⟩, ?_, ?_, ?_, ?_, ?_, h.pw⟩
  · intro p hp
    obtain ⟨j, hj⟩ := List.getElem?_of_mem hp
    rw [List.getElem?_set] at hj
    split at hj
    · split at hj
      · cases hj; exact hb
      · cases hj
    · rename_i hne
      have hp' := List.mem_of_getElem? hj
      rw [hoth p.1 (h.lt p hp') (fun he => ?_)]
      · exact h.own p hp'
      · have h1 : (L.map (·.1))[i]? = some b := by simp [hi]
        have h2 : (L.map (·.1))[j]? = some b := by simp [hj, he]
        have hlt : i < (L.map (·.1)).length := (List.getElem?_eq_some_iff.1 h1).1
        exact hne ((List.getElem?_inj hlt h.nd).1 (h1.trans h2.symm))
  · intro p hp
    rcases List.mem_or_eq_of_mem_set hp with hp | hp
    · exact h.lo p hp
    · subst hp; exact hlo
  · rw [hmap]; exact h.nd
  · intro r hr
    refine h.row_keep hr hos ht hou hsz fun k hk hv => hoth k hk fun e => ?_
    subst e
    exact h.off r hr _ hv (List.mem_map.2 ⟨_, hmem, rfl⟩)
  · intro r hr k hk hm
    rw [hmap] at hm
    exact h.off r hr k hk hm
/-- a slice that is still nil -/
theorem Cxr.nilRow (h : Cxr w0 w L R) (e size : Nat) : Cxr w0 w L (⟨e, size, .slice none 0 0, 0, []⟩ :: R) :=
  ⟨h.ext, h.own, h.lo, h.nd, fun r hr => by
    rcases List.mem_cons.1 hr with rfl | hr
    · exact World.ownsRow_nil _ _ _ _
    · exact h.rows r hr, fun r hr k hk => by
    rcases List.mem_cons.1 hr with rfl | hr
    · simp [Value.ownBlock] at hk
    · exact h.off r hr k hk, List.pairwise_cons.2 ⟨fun r _ k hk => by simp [Value.ownBlock] at hk, h.pw⟩⟩
/-- a slice in a block of its own that is none of the others' -/
theorem Cxr.addRow (h : Cxr w0 w L R) (r : Row) (hrow : w.ownsRow w0.heap.size r.e r.size r.v r.n r.xs) (hoff : ∀ k, r.v.ownBlock = some k → k ∉ L.map (·.1)) (hr : ∀ s ∈ R, ∀ k, r.v.ownBlock = some k → s.v.ownBlock ≠ some k) : Cxr w0 w L (r :: R) :=
  ⟨h.ext, h.own, h.lo, h.nd, fun s hs => by
    rcases List.mem_cons.1 hs with rfl | hs
    · exact hrow
    · exact h.rows s hs, fun s hs => by
    rcases List.mem_cons.1 hs with rfl | hs
    · exact hoff
    · exact h.off s hs, List.pairwise_cons.2 ⟨hr, h.pw⟩⟩
/-- a slice that a callee made -/
theorem Cxr.callRow (h : Cxr w0 w L R) (hb : Below w.heap.size w w') {e size n : Nat} {v : Value} {xs : List Value} (hrow : w'.ownsRow w.heap.size e size v n xs) : Cxr w0 w' L (⟨e, size, v, n, xs⟩ :: R) := by
  refine (h.call hb).addRow _ ⟨hrow.1, ?_⟩ ?_ ?_
  · rcases hrow.2 with h2 | ⟨g, cap, cur, h1, h2, h3⟩
    · exact .inl h2
    · exact .inr ⟨g, cap, cur, h1, Nat.le_trans h.ext.size h2, h3⟩
  · intro k hk hm
    obtain ⟨p, hp, rfl⟩ := List.mem_map.1 hm
    have h1 := (hrow.lt _ hk).1
    have h2 := h.lt p hp
    omega
  · intro s hs k hk hk'
    have h1 := (hrow.lt _ hk).1
    have h2 := ((h.rows s hs).lt _ hk').2
    omega
/-- a block that a literal slice lies in, as a slice -/
theorem Cxr.toRow {b e size k : Nat} {cs : List Value} (h : Cxr w0 w ((b, .cells cs.toArray e) :: L) R) (hl : cs.length = k * size) (hk : k ≤ maxLen) : Cxr w0 w L (⟨e, size, .slice (some ⟨b, 0, none⟩) k k, k, cs⟩ :: R) := by
  refine (h.drop 1).addRow _ ⟨hl, .inr ⟨b, k, cs.toArray, rfl, h.lo (b, .cells cs.toArray e) (by simp), h.own (b, .cells cs.toArray e) (by simp), Nat.le_refl _, hk, by simpa using hl, ?_⟩⟩ ?_ ?_
  · simp [← hl]
  · intro q hq
    simp only [Value.ownBlock, Option.some.injEq] at hq
    subst hq
    have := h.nd
    simp only [List.map_cons, List.nodup_cons] at this
    exact this.1
  · intro s hs q hq hq'
    simp only [Value.ownBlock, Option.some.injEq] at hq
    subst hq
    exact h.off s hs _ hq' (by simp)
end

section
variable {P : Program} {ops : Array Oper} {Q : Exit → Act → World → Prop} {rest : List Oper} {o : Oper} {n : Nat} {f : Nat → Value} {w w0 : World} {L : List (Nat × Obj)} {R : List Row}

theorem run_box (t : TypeId) (v : Value) : (Instr.box t v).run P w = .ok (.pointer (some ⟨w.heap.size, 0, none⟩)) (w.alloc (.cells v.cells t)) := by
  simp [Instr.box, newVar, newRow]

theorem s_box {d : Nat} {t : TypeId} {x : Operand} {v : Value} {cs : List Value} (cx : Cxr w0 w L R) (hg : o.guard = none) (hd : o.dst = some d) (ho : o.op = .box t x) (hx : ev n f x = v) (hv : v.cells = cs.toArray)
    (h : ∀ b w', Cxr w0 w' ((b, .cells cs.toArray t) :: L) R → w.heap.size = b → Below w.heap.size w w' → wpList P ops Q rest (St n (upd f d (.pointer (some ⟨b, 0, none⟩)))) w') : wpList P ops Q (o :: rest) (St n f) w := by
  refine s_new (w' := w.alloc (.cells v.cells t)) (v := .pointer (some ⟨w.heap.size, 0, none⟩)) hg hd ?_ ?_
  · unfold execOp; rw [ho]; simp [hx, run_box]
  · rw [hv]; exact h _ _ (cx.alloc _) rfl ((Below.refl _ _).alloc (Nat.le_refl _) _)

/-- a type's zero value -/
def Zero (P : Program) (t : TypeId) (l : List Value) : Prop := ∃ v, (∀ w, (zeroValue t).run P w = .ok v w) ∧ v.cells = l.toArray
theorem zero_of {t : TypeId} {v : Value} {l : List Value} (h : (P.info? t).map (·.zero) = some (some v)) (hl : v.cells = l.toArray) : Zero P t l := by
  refine ⟨v, fun w => ?_, hl⟩
  cases hi : P.info? t with
  | none => simp [hi] at h
  | some i => simp [hi] at h; simp [zeroValue, typeInfo, hi, h]

theorem s_alloc {d : Nat} {t : TypeId} {cs : List Value} (cx : Cxr w0 w L R) (hz : Zero P t cs) (hg : o.guard = none) (hd : o.dst = some d) (ho : o.op = .alloc t)
    (h : ∀ b w', Cxr w0 w' ((b, .cells cs.toArray t) :: L) R → w.heap.size = b → Below w.heap.size w w' → wpList P ops Q rest (St n (upd f d (.pointer (some ⟨b, 0, none⟩)))) w') : wpList P ops Q (o :: rest) (St n f) w := by
  obtain ⟨v, hv, hl⟩ := hz
  refine s_new (w' := w.alloc (.cells v.cells t)) (v := .pointer (some ⟨w.heap.size, 0, none⟩)) hg hd ?_ ?_
  · unfold execOp; rw [ho]; simp [Instr.alloc, hv w, newVar, newRow]
  · rw [hl]; exact h _ _ (cx.alloc _) rfl ((Below.refl _ _).alloc (Nat.le_refl _) _)

theorem setRow_ctx {b : Nat} {old new : Array Value} {t : TypeId} (cx : Cxr w0 w L R) (i : Nat) (hi : L[i]? = some (b, .cells old t)) : Cxr w0 (w.setRow b new) (L.set i (b, .cells new t)) R := by
  have hb := cx.at i hi
  refine cx.turn i hi rfl rfl rfl (by simp) (setRow_heap w b old new t _ hb) fun k _ hne => setRow_other w b k new hne

/-- a whole block of the call's own is written -/
theorem s_storeAll {t T : TypeId} {x y : Operand} {b : Nat} {l cs : List Value} (cx : Cxr w0 w L R) (i : Nat) (hg : o.guard = none) (hd : o.dst = none) (ho : o.op = .store t x y) (hx : ev n f x = .pointer (some ⟨b, 0, none⟩)) (hy : ev n f y = .agg l.toArray)
    (hi : L[i]? = some (b, .cells cs.toArray T)) (hs : (P.info? t).map (·.size) = some l.length) (hlen : cs.length = l.length) (h1 : l.all (·.oneCell') = true)
    (h : ∀ w', Cxr w0 w' (L.set i (b, .cells l.toArray T)) R → w'.heap.size = w.heap.size → wpList P ops Q rest (St n f) w') : wpList P ops Q (o :: rest) (St n f) w := by
  have hb := cx.at i hi
  refine s_put (w' := w.setRow b l.toArray) hg hd ?_ (h _ (setRow_ctx cx i hi) (by simp))
  have := run_storeVar_row (P := P) w b T t cs.toArray l.toArray hb (by simpa using hs) (by simpa using hlen) (by simpa using h1)
  unfold execOp; rw [ho]
  simp [hx, hy, Instr.storeAt, Instr.sureAddr, this]

/-- one cell of a block of the call's own is written -/
theorem s_store1 {t T : TypeId} {x y : Operand} {b j : Nat} {cs : List Value} {v : Value} (cx : Cxr w0 w L R) (i : Nat) (hg : o.guard = none) (hd : o.dst = none) (ho : o.op = .store t x y) (hx : ev n f x = .pointer (some ⟨b, j, none⟩)) (hy : ev n f y = v) (h1 : v.oneCell' = true)
    (hi : L[i]? = some (b, .cells cs.toArray T)) (hj : Nat.blt j cs.length = true) (hs : (P.info? t).map (·.size) = some 1)
    (h : ∀ w', Cxr w0 w' (L.set i (b, .cells (cs.set j v).toArray T)) R → w'.heap.size = w.heap.size → wpList P ops Q rest (St n f) w') : wpList P ops Q (o :: rest) (St n f) w := by
  have hb := cx.at i hi
  have hj' : j < cs.length := by simpa [blt_iff] using hj
  have hc : v.cells = #[v] := by cases v <;> first | rfl | simp [Value.oneCell'] at h1
  have hcell : w.cell? ⟨b, j, none⟩ = some cs[j] := by rw [cell_of_row w b j _ T _ hb]; simp [hj']
  have hfr : w.frozen? ⟨b, j, none⟩ = false := frozen_of_row w b j _ T hb
  refine s_put (w' := w.setCell ⟨b, j, none⟩ v) hg hd ?_ (h _ ?_ (by simp))
  · unfold execOp; rw [ho]
    simp [hx, hy, Instr.storeAt, Instr.sureAddr, storeVar, run_size (w := w) hs, hc, storeCells, run_store P w _ v _ h1, add_addr, hcell, hfr]
  · refine cx.turn i hi rfl rfl rfl (by simp) ?_ fun k _ hne => Below.heap_setCell w _ v k hne
    rw [heap_setCell_same w b j _ T v hb]
    simp

/-- a call of a function by its contract -/
theorem s_call {d k : Nat} {as : Array Operand} {ats : Array TypeId} {fn : Func} {args : List Value} {R : Value → World → Prop} (hc : Ret P k args w R) (hf : P.funcs[k]? = some fn) (hb : fn.body.isNone = false) (hn : (fn.name == "runtime.NumGoroutine") = false)
    (hg : o.guard = none) (hd : o.dst = some d) (ho : o.op = .call { callee := .value (.func k), args := as, argTypes := ats }) (hargs : as.toList.map (ev n f) = args)
    (h : ∀ v w', R v w' → wpList P ops Q rest (St n (upd f d v)) w') : wpList P ops Q (o :: rest) (St n f) w := by
  refine wpList_plain hg fun K hK => ?_
  have hrun : (execOp (ev n f) o).run P w = .ok (.enter k args.toArray) w := by
    have h1 : fn.name ≠ "runtime.NumGoroutine" := by simpa using hn
    have h2 : ¬ fn.body = none := by intro e; simp [e] at hb
    unfold execOp; rw [ho]
    have e : as.map (ev n f) = args.toArray := by rw [← hargs]; apply Array.ext'; simp
    simp [resolve, e, ev, Deferred.ofValue, invoke, callFunc, hf, h1, h2]
  unfold Oper.wp
  rw [eval_St, hrun]
  refine Calls.mono hc ?_
  rintro e w' ⟨v, rfl, hv⟩
  show K ((St n f).put o.dst v) w'
  refine hK _ _ ?_
  rw [hd, put_St]
  exact h v w' hv
end

theorem least_of {p : Nat → Prop} (h : ∃ k, p k) : ∃ k, p k ∧ ∀ j, p j → k ≤ j := by
  classical
  obtain ⟨k, hk⟩ := h
  induction k using Nat.strongRecOn with
  | _ k ih =>
    by_cases hj : ∃ j, j < k ∧ p j
    · obtain ⟨j, hlt, hp⟩ := hj
      exact ih j hlt hp
    · exact ⟨k, hk, fun j hp => Nat.le_of_not_lt fun hlt => hj ⟨j, hlt, hp⟩⟩
/-- a loop: J k says what holds at a round's head when at most k rounds are to come -/
theorem w_loop {P : Program} {c : Code} {Q : Exit → Act → World → Prop} {n : Nat} {f : Nat → Value} {w : World} (J : Nat → (Nat → Value) → World → Prop) (k0 : Nat) (h0 : J k0 f w)
    (round : ∀ k f w, J k f w → c.wp P (Exit.then (fun a' w' => ∃ k' f', k' < k ∧ a' = St n f' ∧ J k' f' w') Q) (St n f) w) : (Code.loop c).wp P Q (St n f) w := by
  classical
  let ok : Act → World → Nat → Prop := fun a w k => ∃ f', a = St n f' ∧ J k f' w
  let least : Act → World → Nat := fun a w => if h : ∃ k, ok a w k then Classical.choose (least_of h) else 0
  refine wp_loop (fun a w => ∃ k, ok a w k) least ⟨k0, f, rfl, h0⟩ ?_
  intro a w hI
  have hl := Classical.choose_spec (least_of hI)
  have hle : least a w = Classical.choose (least_of hI) := dif_pos hI
  obtain ⟨f1, ha, hJ⟩ := hl.1
  subst ha
  refine wp_mono (round _ f1 w hJ) ?_
  intro e a' w' hq
  cases e with
  | normal =>
    obtain ⟨k', f', hlt, ha', hJ'⟩ := hq
    have hI' : ∃ k, ok a' w' k := ⟨k', f', ha', hJ'⟩
    refine ⟨hI', ?_⟩
    rw [hle]
    have hl' := Classical.choose_spec (least_of hI')
    have hle' : least a' w' = Classical.choose (least_of hI') := dif_pos hI'
    rw [hle']
    exact Nat.lt_of_le_of_lt (hl'.2 k' ⟨f', ha', hJ'⟩) hlt
  | _ => exact hq
end Go.Dk
