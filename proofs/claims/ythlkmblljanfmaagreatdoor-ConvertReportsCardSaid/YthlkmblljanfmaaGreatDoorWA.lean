/-
  Several texts in one: Ba Bb Bc Bd Pa Pb Pc Px Pd Rp Ga
-/
import Derived.WalkKit
import Derived.WalkSpells
import Derived.WalkLawsBesides
import Derived.Laws.CopyOwn
import Derived.Lib.AppendStr
import Derived.Still
import Derived.Deep.Quiet
import Derived.Lib.ItoaNum
import Derived.Lib.DecodeN
import Derived.Lib.ValidLaws
import Derived.Test.YthlkmblljanfmaaGreatDoorProg
import Derived.KernelRfl
import Derived.ProofKit
section
set_option linter.unusedVariables false
namespace Go.Dk
open Go Go.RowKit
def upd (f : Nat → Value) (d : Nat) (v : Value) : Nat → Value := fun i => bif Nat.beq i d then v else f i
def ofL : List Value → Nat → Value
  | [], _ => undef
  | x :: _, 0 => x
  | _ :: l, i + 1 => ofL l i
def St (n : Nat) (f : Nat → Value) : Act := ⟨Array.ofFn (n := n) fun i => f i.val, []⟩
def ev (n : Nat) (f : Nat → Value) : Operand → Value
  | .tmp t => bif Nat.blt t n then f t else undef
  | .const v => v
  | .global g => .pointer (some ⟨g, 0, none⟩)
  | .func k => .func (.func k) #[] #[]
theorem blt_iff (a b : Nat) : Nat.blt a b = decide (a < b) := by
  rw [Bool.eq_iff_iff]; simp [Nat.blt_eq]
theorem upd_eq (f : Nat → Value) (d : Nat) (v : Value) (i : Nat) : upd f d v i = if i = d then v else f i := by
  unfold upd
  cases h : Nat.beq i d
  · have h' : i ≠ d := by intro e; rw [e, Nat.beq_refl] at h; cases h
    simp [h']
  · have h' : i = d := Nat.eq_of_beq_eq_true h
    simp [h']
theorem eval_St (n : Nat) (f : Nat → Value) : (St n f).eval = ev n f := by
  funext x
  cases x with
  | tmp t =>
    show (St n f).tmps.getD t undef = bif Nat.blt t n then f t else undef
    rw [blt_iff]
    unfold St
    by_cases h : t < n <;> simp [h, Array.getD]
  | _ => rfl
theorem put_St (n : Nat) (f : Nat → Value) (d : Nat) (v : Value) : (St n f).put (some d) v = St n (upd f d v) := by
  simp only [Act.put, St]
  congr 1
  apply Array.ext
  · simp
  · intro i h1 h2
    have hi : i < n := by simpa using h2
    rw [Array.getElem_ofFn]
    simp only [upd_eq]
    by_cases hd : i = d
    · subst hd; simp
    · rw [if_neg hd, Array.getElem_setIfInBounds_ne (by simpa using hi) (Ne.symm hd), Array.getElem_ofFn]
theorem put_none (n : Nat) (f : Nat → Value) (v : Value) : (St n f).put none v = St n f := rfl
theorem enter_St (l : List Value) (n : Nat) (h : l.length ≤ n) :
    ({ tmps := l.toArray ++ Array.replicate (n - l.toArray.size) undef, defers := [] } : Act) = St n (ofL l) := by
  have key : ∀ (l : List Value) (i : Nat), ofL l i = l.getD i undef := by
    intro l
    induction l with
    | nil => intro i; simp [ofL]
    | cons x l ih => intro i; cases i with
      | zero => simp [ofL]
      | succ i => simp [ofL, ih]
  simp only [St]
  congr 1
  apply Array.ext
  · simp; omega
  · intro i h1 h2
    simp only [Array.getElem_ofFn, key, Array.getElem_append]
    simp at h1 h2
    by_cases hi : i < l.length
    · simp [hi, List.getD]
    · simp [hi, List.getD]
def Ret (P : Program) (k : FuncId) (args : List Value) (w : World) (R : Value → World → Prop) : Prop :=
  Calls P k args.toArray w fun e w' => ∃ v, e = .returned v ∧ R v w'
theorem Ret.mono {P : Program} {k : FuncId} {args : List Value} {w : World} {R R' : Value → World → Prop} (h : Ret P k args w R) (hr : ∀ v w', R v w' → R' v w') : Ret P k args w R' :=
  Calls.mono h fun _ _ ⟨v, he, hv⟩ => ⟨v, he, hr _ _ hv⟩
theorem ret_enter {P : Program} {k : FuncId} {fn : Func} {c : Code} {l : List Value} {n : Nat} {w : World} {R : Value → World → Prop}
    (hf : P.funcs[k]? = some fn) (hb : fn.body = some c) (hn : fn.ntmps = n) (hl : Nat.ble l.length n = true)
    (h : c.wp P (bodyPost P fn fun e w' => ∃ v, e = .returned v ∧ R v w') (St n (ofL l)) w) : Ret P k l w R := by
  refine calls_of_wp hf hb ?_
  rw [hn, enter_St l n (Nat.le_of_ble_eq_true hl)]
  exact h
theorem ret_tmp {P : Program} {fn : Func} {R : Value → World → Prop} {n : Nat} {f : Nat → Value} {w : World} {t : Nat} {v : Value}
    (hr : fn.results = #[.tmp t]) (hv : ev n f (.tmp t) = v) (h : R v w) : bodyPost P fn (fun e w' => ∃ v, e = .returned v ∧ R v w') .ret (St n f) w := by
  refine ⟨rfl, v, ?_, v, rfl, h⟩
  rw [results_tmp hr]
  rw [← hv, ← eval_St]; rfl
theorem ret_tmp2 {P : Program} {fn : Func} {R : Value → World → Prop} {n : Nat} {f : Nat → Value} {w : World} {t u : Nat} {v x : Value}
    (hr : fn.results = #[.tmp t, .tmp u]) (hv : ev n f (.tmp t) = v) (hx : ev n f (.tmp u) = x) (h : R (.tuple #[v, x]) w) : bodyPost P fn (fun e w' => ∃ v, e = .returned v ∧ R v w') .ret (St n f) w := by
  refine ⟨rfl, _, ?_, _, rfl, h⟩
  rw [results_tmp2 hr]
  rw [← hv, ← hx, ← eval_St]; rfl
/-! ### one operation of a plain region -/
section
variable {P : Program} {ops : Array Oper} {Q : Exit → Act → World → Prop} {rest : List Oper} {o : Oper} {n : Nat} {f : Nat → Value} {w : World}
theorem s_run {w' : World} {v : Value} (hg : o.guard = none) (hv : (execOp (ev n f) o).run P w = .ok (.value v) w')
    (h : wpList P ops Q rest ((St n f).put o.dst v) w') : wpList P ops Q (o :: rest) (St n f) w := by
  refine wpList_plain hg fun K hK => ?_
  unfold Oper.wp
  rw [eval_St, hv]
  exact hK _ _ h
theorem s_val {v : Value} {d : Nat} (hg : o.guard = none) (hd : o.dst = some d) (hv : (execOp (ev n f) o).run P w = .ok (.value v) w)
    (h : wpList P ops Q rest (St n (upd f d v)) w) : wpList P ops Q (o :: rest) (St n f) w :=
  s_run hg hv (by rw [hd, put_St]; exact h)
theorem s_new {w' : World} {v : Value} {d : Nat} (hg : o.guard = none) (hd : o.dst = some d) (hv : (execOp (ev n f) o).run P w = .ok (.value v) w')
    (h : wpList P ops Q rest (St n (upd f d v)) w') : wpList P ops Q (o :: rest) (St n f) w :=
  s_run hg hv (by rw [hd, put_St]; exact h)
theorem s_put {w' : World} (hg : o.guard = none) (hd : o.dst = none) (hv : (execOp (ev n f) o).run P w = .ok .skip w')
    (h : wpList P ops Q rest (St n f) w') : wpList P ops Q (o :: rest) (St n f) w := by
  refine wpList_plain hg fun K hK => ?_
  unfold Oper.wp
  rw [eval_St, hv]
  refine hK _ _ ?_
  rw [hd]
  exact h
def gv (c : Bool) (v : Value) : Value := bif c then v else undef
theorem gv_true (v : Value) : gv true v = v := rfl
theorem gve {c : Bool} {x v : Value} (hc : c = true) (h : x = gv c v) : x = v := by rw [h, hc]; rfl
theorem and_l {a b : Bool} (h : (a && b) = true) : a = true := by cases a <;> simp_all
theorem and_r {a b : Bool} (h : (a && b) = true) : b = true := by cases a <;> simp_all
attribute [irreducible] gv
def WantB (v : Value) (pol c : Bool) : Prop := (match v with | .bool b => b == pol | _ => false) = c
theorem w_tt {x : Value} {b : Bool} (h : x = .bool b) : WantB x true b := by subst h; cases b <;> rfl
theorem w_ff {x : Value} {b : Bool} (h : x = .bool b) : WantB x false (!b) := by subst h; cases b <;> rfl
theorem w_gt {x : Value} {c b : Bool} (h : x = gv c (.bool b)) : WantB x true (c && b) := by subst h; unfold gv; cases b <;> cases c <;> rfl
theorem w_gf {x : Value} {c b : Bool} (h : x = gv c (.bool b)) : WantB x false (c && !b) := by subst h; unfold gv; cases b <;> cases c <;> rfl
theorem wanted_St {j dj : Nat} {pol c : Bool} (hg : o.guard = some (j, pol)) (hj : (ops[j]?).bind (·.dst) = some dj) (hc : WantB (ev n f (.tmp dj)) pol c) :
    Region.wanted o (yielded ops (St n f).tmps) = c := by
  have hy : (St n f).tmps[dj]? = if dj < n then some (f dj) else none := by
    by_cases h : dj < n <;> simp [St, h]
  unfold Region.wanted yielded
  rw [hg]
  simp only [hj, Option.bind_some, hy]
  unfold WantB at hc
  rw [← hc]
  show _ = (match (bif Nat.blt dj n then f dj else undef) with | .bool b => b == pol | _ => false)
  rw [blt_iff]
  by_cases h : dj < n
  · simp only [h, if_true, decide_true, cond_true]
    cases f dj <;> simp
  · simp only [h, if_false, decide_false, cond_false]
    simp [undef]
theorem s_gval {v : Value} {j d dj : Nat} {pol c : Bool} (hg : o.guard = some (j, pol)) (hd : o.dst = some d) (hj : (ops[j]?).bind (·.dst) = some dj) (hc : WantB (ev n f (.tmp dj)) pol c)
    (hv : c = true → (execOp (ev n f) o).run P w = .ok (.value v) w) (h : wpList P ops Q rest (St n (upd f d (gv c v))) w) : wpList P ops Q (o :: rest) (St n f) w := by
  have hw := wanted_St (o := o) (ops := ops) hg hj hc
  refine wpList_step fun K hK => ?_
  rw [hw]
  cases c with
  | true =>
    simp only [if_true]
    unfold Oper.wp
    rw [eval_St, hv rfl]
    refine hK _ _ ?_
    rw [hd, put_St]
    unfold gv at h
    exact h
  | false =>
    simp only [Bool.false_eq_true, if_false]
    refine hK _ _ ?_
    rw [hd, put_St]
    unfold gv at h
    exact h
/-! ### what operations yield -/
variable {ρ : Operand → Value} {a : Operand}
theorem v_move {x : Operand} {v : Value} (ho : o.op = .move x) (hx : ρ x = v) : (execOp ρ o).run P w = .ok (.value v) w := by
  unfold execOp; rw [ho]; simp [hx]
theorem v_assign {x : Operand} {v : Value} (ho : o.op = .assign x) (hx : ρ x = v) : (execOp ρ o).run P w = .ok (.value v) w := by
  unfold execOp; rw [ho]; simp [hx]
theorem v_or {c x y : Operand} {p q : Bool} (ho : o.op = .pick c x y) (hc : ρ c = .bool p) (hx : ρ x = .bool true) (hy : ρ y = gv (!p) (.bool q)) : (execOp ρ o).run P w = .ok (.value (.bool (p || q))) w := by
  unfold execOp; rw [ho]; simp only [hc, hx, hy, asBool]; cases p <;> simp [gv]
theorem v_and {c x y : Operand} {p q : Bool} (ho : o.op = .pick c x y) (hc : ρ c = .bool p) (hx : ρ x = gv p (.bool q)) (hy : ρ y = .bool false) : (execOp ρ o).run P w = .ok (.value (.bool (p && q))) w := by
  unfold execOp; rw [ho]; simp only [hc, hx, hy, asBool]; cases p <;> simp [gv]
theorem v_or_g {c x y : Operand} {p q g : Bool} (hg : g = true) (ho : o.op = .pick c x y) (hc : ρ c = gv g (.bool p)) (hx : ρ x = .bool true) (hy : ρ y = gv (g && !p) (.bool q)) : (execOp ρ o).run P w = .ok (.value (.bool (p || q))) w :=
  v_or ho (gve hg hc) hx (by rw [hy, hg, Bool.true_and])
theorem v_and_g {c x y : Operand} {p q g : Bool} (hg : g = true) (ho : o.op = .pick c x y) (hc : ρ c = gv g (.bool p)) (hx : ρ x = gv (g && p) (.bool q)) (hy : ρ y = .bool false) : (execOp ρ o).run P w = .ok (.value (.bool (p && q))) w :=
  v_and ho (gve hg hc) (by rw [hx, hg, Bool.true_and]) hy
theorem v_cmp {op : BinOp} {t t' : TypeId} {x y : Operand} {k : IntKind} {p q : Int} {b : Bool} (ho : o.op = .binOp op t x y t') (hx : ρ x = .int k p) (hy : ρ y = .int k q)
    (hop : (match op with | .lss => some (decide (p < q)) | .leq => some (decide (p ≤ q)) | .gtr => some (decide (q < p)) | .geq => some (decide (q ≤ p)) | .eql => some (p == q) | .neq => some (p != q) | _ => none) = some b) :
    (execOp ρ o).run P w = .ok (.value (.bool b)) w := by
  unfold execOp
  rw [ho]
  simp only [hx, hy]
  cases op <;> simp at hop <;> subst hop <;> simp [eqGuard, binOp, Op.intCmp, bne]
theorem v_add {t t' : TypeId} {x y : Operand} {p q : Int} (ho : o.op = .binOp .add t x y t') (hx : ρ x = .int .i64 p) (hy : ρ y = .int .i64 q)
    (h1 : -9223372036854775808 ≤ p + q) (h2 : p + q ≤ 9223372036854775807) : (execOp ρ o).run P w = .ok (.value (.int .i64 (p + q))) w := by
  unfold execOp
  rw [ho]
  have hw : IntKind.i64.wrap (p + q) = p + q := IntWalk.i64_in _ (by omega)
  simp [hx, hy, eqGuard, binOp, Op.intArith, hw]
theorem v_sub {t t' : TypeId} {x y : Operand} {p q : Int} (ho : o.op = .binOp .sub t x y t') (hx : ρ x = .int .i64 p) (hy : ρ y = .int .i64 q)
    (h1 : -9223372036854775808 ≤ p - q) (h2 : p - q ≤ 9223372036854775807) : (execOp ρ o).run P w = .ok (.value (.int .i64 (p - q))) w := by
  unfold execOp
  rw [ho]
  have hw : IntKind.i64.wrap (p - q) = p - q := IntWalk.i64_in _ (by omega)
  simp [hx, hy, eqGuard, binOp, Op.intArith, hw]
theorem v_mul {t t' : TypeId} {x y : Operand} {p q : Int} (ho : o.op = .binOp .mul t x y t') (hx : ρ x = .int .i64 p) (hy : ρ y = .int .i64 q)
    (h1 : -9223372036854775808 ≤ p * q) (h2 : p * q ≤ 9223372036854775807) : (execOp ρ o).run P w = .ok (.value (.int .i64 (p * q))) w := by
  unfold execOp
  rw [ho]
  have hw : IntKind.i64.wrap (p * q) = p * q := IntWalk.i64_in _ ⟨h1, h2⟩
  simp [hx, hy, eqGuard, binOp, Op.intArith, hw]
theorem v_not {t : TypeId} {x : Operand} {b : Bool} (ho : o.op = .unOp .not t x) (hx : ρ x = .bool b) : (execOp ρ o).run P w = .ok (.value (.bool (!b))) w := by
  unfold execOp
  rw [ho]
  simp [hx, Op.unary]
theorem v_extract {x : Operand} {i : Nat} {vs : Array Value} {v : Value} (ho : o.op = .extract x i) (hx : ρ x = .tuple vs) (hv : vs[i]? = some v) : (execOp ρ o).run P w = .ok (.value v) w := by
  unfold execOp
  rw [ho]
  simp [hx, Instr.extract, hv]
theorem v_lenSlice {x : Operand} {t : TypeId} {ad : Option Addr} {l c : Nat} {e : TypeId} (ho : o.op = .call { callee := .builtin .len, args := #[x], argTypes := #[t] }) (hx : ρ x = .slice ad l c) (hu : P.underlying t = some (.slice e)) :
    (execOp ρ o).run P w = .ok (.value (.int .i64 l)) w := by
  unfold execOp
  rw [ho]
  simp [resolve, hx, invoke, builtin, Builtin.len_, goInt, run_underlying hu]
theorem v_lenString {x : Operand} {t : TypeId} {s : ByteArray} (ho : o.op = .call { callee := .builtin .len, args := #[x], argTypes := #[t] }) (hx : ρ x = .string s) (hu : P.underlying t = some .string) :
    (execOp ρ o).run P w = .ok (.value (.int .i64 s.size)) w := by
  unfold execOp
  rw [ho]
  simp [resolve, hx, invoke, builtin, Builtin.len_, goInt, run_underlying hu]
theorem bytes_eq (s u : ByteArray) : (s.toList == u.toList) = decide (s = u) := by
  rw [Bool.eq_iff_iff]
  simp only [beq_iff_eq, decide_eq_true_eq, ByteArray.toList_eq]
  constructor
  · intro h; cases s; cases u; simp at h; simp [h]
  · intro h; rw [h]
theorem v_strEq {t t' : TypeId} {x y : Operand} {s u : ByteArray} (ho : o.op = .binOp .eql t x y t') (hx : ρ x = .string s) (hy : ρ y = .string u) :
    (execOp ρ o).run P w = .ok (.value (.bool (decide (s = u)))) w := by
  unfold execOp
  rw [ho]
  simp [hx, hy, eqGuard, binOp, Op.stringOp, bytes_eq]
theorem v_strNe {t t' : TypeId} {x y : Operand} {s u : ByteArray} (ho : o.op = .binOp .neq t x y t') (hx : ρ x = .string s) (hy : ρ y = .string u) :
    (execOp ρ o).run P w = .ok (.value (.bool (!decide (s = u)))) w := by
  unfold execOp
  rw [ho]
  simp [hx, hy, eqGuard, binOp, Op.stringOp, bytes_eq]
/-! ### memory -/
def RowAt (w : World) (b o : Nat) (l : List Value) : Prop := ∀ j x, l[j]? = some x → w.cell? ⟨b, o + j, none⟩ = some x
theorem RowAt.cell {b i : Nat} {l : List Value} {x : Value} (h : RowAt w b i l) (j : Nat) (hj : l[j]? = some x) : w.cell? ⟨b, i + j, none⟩ = some x := h j x hj
theorem add_addr (b i j : Nat) : (⟨b, i, none⟩ : Addr).add j = ⟨b, i + j, none⟩ := by
  unfold Addr.add
  split
  · rename_i h; subst h; rfl
  · rfl
def aggD : TypeDesc → Bool
  | .struct _ | .array _ _ => true
  | _ => false
theorem run_isAgg {t : TypeId} {d : TypeDesc} (hu : P.underlying t = some d) : (isAgg t).run P w = .ok (aggD d) w := by
  unfold isAgg
  rw [Sem.run_bind, run_underlying hu w]
  cases d <;> rfl
theorem run_size {t : TypeId} {k : Nat} (hs : (P.info? t).map (·.size) = some k) : (sizeOf t).run P w = .ok k w := by
  cases h : P.info? t with
  | none => simp [h] at hs
  | some i => simp [h] at hs; simp [sizeOf, typeInfo, h, hs]
theorem v_load1 {x : Operand} {t : TypeId} {d : TypeDesc} {b i : Nat} {v : Value} (ho : o.op = .load t x) (hx : ρ x = .pointer (some ⟨b, i, none⟩)) (hu : P.underlying t = some d) (hd : aggD d = false)
    (hc : w.cell? ⟨b, i, none⟩ = some v) : (execOp ρ o).run P w = .ok (.value v) w := by
  unfold execOp
  rw [ho]
  simp [hx, Instr.loadAt, Instr.sureAddr, loadVar, run_isAgg (w := w) hu, hd, hc]
theorem v_load {x : Operand} {t : TypeId} {d : TypeDesc} {b i : Nat} {l : List Value} (ho : o.op = .load t x) (hx : ρ x = .pointer (some ⟨b, i, none⟩)) (hu : P.underlying t = some d) (hd : aggD d = true)
    {k : Nat} (hs : (P.info? t).map (·.size) = some k) (hc : RowAt w b i l) (hk : l.length = k) : (execOp ρ o).run P w = .ok (.value (.agg l.toArray)) w := by
  unfold execOp
  rw [ho]
  subst hk
  have hl := run_loadCells_list (P := P) w ⟨b, i, none⟩ l (fun j v hv => by rw [add_addr]; exact hc j v hv)
  simp [hx, Instr.loadAt, Instr.sureAddr, loadVar, run_isAgg (w := w) hu, hd, run_size (w := w) hs, hl]
def FA (P : Program) (t : TypeId) (i off : Nat) : Prop := ∀ (b k : Nat) (w : World), (Instr.fieldAt t (.pointer (some ⟨b, k, none⟩)) i).run P w = .ok (.pointer (some ⟨b, k + off, none⟩)) w
theorem fa_of {t : TypeId} {i s tt off : Nat} {fs : Array Field} (hu : P.underlying t = some (.struct fs)) (hf : (fs[i]?).map (fun f => (f.type, f.offset)) = some (tt, off)) (hs : (P.info? tt).map (·.size) = some s) (h0 : Nat.blt 0 s = true) : FA P t i off := by
  intro b k w
  have h0' : s ≠ 0 := by intro e; subst e; cases h0
  cases hq : fs[i]? with
  | none => simp [hq] at hf
  | some fl =>
    simp only [hq, Option.map_some, Option.some.injEq, Prod.mk.injEq] at hf
    obtain ⟨rfl, rfl⟩ := hf
    simp [Instr.fieldAt, run_underlying hu, hq, Instr.sureAddr, fieldPlace, run_size (w := w) hs, add_addr, h0']
theorem v_fa {x : Operand} {t : TypeId} {i off b k : Nat} (h : FA P t i off) (ho : o.op = .fieldAddr t x i) (hx : ρ x = .pointer (some ⟨b, k, none⟩)) :
    (execOp ρ o).run P w = .ok (.value (.pointer (some ⟨b, k + off, none⟩))) w := by
  unfold execOp
  rw [ho]
  simp [hx, h b k w]
theorem v_ia {x ix : Operand} {t e : TypeId} {s b k len cap : Nat} {m : Int} {kd : IntKind} (hu : P.underlying t = some (.slice e)) (hs : (P.info? e).map (·.size) = some s) (ho : o.op = .indexAddr t x ix)
    (hx : ρ x = .slice (some ⟨b, k, none⟩) len cap) (hi : ρ ix = .int kd m) (h0 : 0 ≤ m) (h1 : m < len) :
    (execOp ρ o).run P w = .ok (.value (.pointer (some ⟨b, k + m.toNat * s, none⟩))) w := by
  unfold execOp
  rw [ho]
  simp [hx, hi, Instr.indexAt, run_underlying hu, asIntOf, h0, h1, run_size (w := w) hs, add_addr]
end
/-! ### memory of the call's own -/
structure Row where
  e : Nat
  size : Nat
  v : Value
  n : Nat
  xs : List Value
structure Cxr (w0 w : World) (L : List (Nat × Obj)) (R : List Row) : Prop where
  ext : Below w0.heap.size w0 w
  own : ∀ p ∈ L, w.heap[p.1]? = some p.2
  lo : ∀ p ∈ L, w0.heap.size ≤ p.1
  nd : (L.map (·.1)).Nodup
  rows : ∀ r ∈ R, w.ownsRow w0.heap.size r.e r.size r.v r.n r.xs
  off : ∀ r ∈ R, ∀ k, r.v.ownBlock = some k → k ∉ L.map (·.1)
  pw : R.Pairwise fun r s => ∀ k, r.v.ownBlock = some k → s.v.ownBlock ≠ some k
abbrev Ctx (w0 w : World) (L : List (Nat × Obj)) : Prop := Cxr w0 w L []
theorem Ctx.start (w : World) : Ctx w w [] := ⟨Below.refl _ _, by simp, by simp, by simp, by simp, by simp, by simp⟩
section
variable {w0 w w' : World} {L : List (Nat × Obj)} {R : List Row}
theorem Cxr.lt (h : Cxr w0 w L R) : ∀ p ∈ L, p.1 < w.heap.size := by
  intro p hp
  have := h.own p hp
  rcases Nat.lt_or_ge p.1 w.heap.size with h' | h'
  · exact h'
  · simp [Array.getElem?_eq_none h'] at this
theorem Cxr.at (h : Cxr w0 w L R) (i : Nat) {b : Nat} {o : Obj} (hi : L[i]? = some (b, o)) : w.heap[b]? = some o :=
  h.own (b, o) (List.mem_of_getElem? hi)
theorem Cxr.row (h : Cxr w0 w L R) (i : Nat) {b : Nat} {l : List Value} {t : TypeId} {fr : Nat × Nat} (hi : L[i]? = some (b, .cells l.toArray t fr)) : RowAt w b 0 l := by
  intro j x hj
  have := h.at i hi
  rw [cell_of_row w b (0 + j) _ t fr this]
  simpa using hj
theorem Cxr.cell (h : Cxr w0 w L R) (i : Nat) {b j : Nat} {cs : Array Value} {x : Value} {t : TypeId} {fr : Nat × Nat} (hi : L[i]? = some (b, .cells cs t fr)) (hj : cs.toList[j]? = some x) : w.cell? ⟨b, j, none⟩ = some x := by
  have := h.at i hi
  rw [cell_of_row w b j _ t fr this]
  simpa using hj
theorem mem_map_drop {k : Nat} {x : Nat} (h : x ∈ (L.drop k).map (·.1)) : x ∈ L.map (·.1) := by
  obtain ⟨p, hp, rfl⟩ := List.mem_map.1 h
  exact List.mem_map.2 ⟨p, List.mem_of_mem_drop hp, rfl⟩
theorem Cxr.drop (h : Cxr w0 w L R) (k : Nat) : Cxr w0 w (L.drop k) R :=
  ⟨h.ext, fun p hp => h.own p (List.mem_of_mem_drop hp), fun p hp => h.lo p (List.mem_of_mem_drop hp), by
    rw [List.map_drop]; exact (List.drop_sublist k _).nodup h.nd, h.rows, fun r hr k' hk hm => h.off r hr k' hk (mem_map_drop hm), h.pw⟩
theorem Cxr.dropR (h : Cxr w0 w L R) (k : Nat) : Cxr w0 w L (R.drop k) :=
  ⟨h.ext, h.own, h.lo, h.nd, fun r hr => h.rows r (List.mem_of_mem_drop hr), fun r hr => h.off r (List.mem_of_mem_drop hr), h.pw.sublist (List.drop_sublist k R)⟩
theorem Cxr.row_keep {r : Row} (h : Cxr w0 w L R) (hr : r ∈ R) (ho : w'.os = w.os) (ht : w'.tape = w.tape) (hu : w'.output = w.output) (hs : w.heap.size ≤ w'.heap.size) (hk : ∀ k, k < w.heap.size → r.v.ownBlock = some k → w'.heap[k]? = w.heap[k]?) :
    w'.ownsRow w0.heap.size r.e r.size r.v r.n r.xs := by
  have hrow := h.rows r hr
  refine ⟨hrow.1, ?_⟩
  rcases hrow.2 with hn | ⟨g, cap, cur, hv, hb, hg, rest⟩
  · exact .inl hn
  · refine .inr ⟨g, cap, cur, hv, hb, ?_, rest⟩
    rw [hk g (Array.getElem?_eq_some_iff.1 hg).1 (by rw [hv]; rfl)]
    exact hg
theorem Cxr.call (h : Cxr w0 w L R) (hb : Below w.heap.size w w') : Cxr w0 w' L R :=
  ⟨h.ext.trans (hb.mono h.ext.size), fun p hp => by rw [hb.block p.1 (h.lt p hp)]; exact h.own p hp, h.lo, h.nd,
   fun r hr => h.row_keep hr hb.os hb.tape hb.output hb.size fun k hk _ => hb.block k hk, h.off, h.pw⟩
theorem Cxr.draw (h : Cxr w0 w L R) : Cxr w0 w.drew L R := h.call ⟨rfl, rfl, rfl, Nat.le_refl _, fun _ _ => rfl⟩
theorem Cxr.alloc (h : Cxr w0 w L R) (o : Obj) : Cxr w0 (w.alloc o) ((w.heap.size, o) :: L) R := by
  refine ⟨h.ext.alloc h.ext.size o, ?_, ?_, ?_, ?_, ?_, h.pw⟩
  · intro p hp
    rcases List.mem_cons.1 hp with rfl | hp
    · exact heap_alloc_new w o
    · rw [Below.heap_alloc w o p.1 (h.lt p hp)]; exact h.own p hp
  · intro p hp
    rcases List.mem_cons.1 hp with rfl | hp
    · exact h.ext.size
    · exact h.lo p hp
  · simp only [List.map_cons, List.nodup_cons]
    refine ⟨fun hm => ?_, h.nd⟩
    obtain ⟨p, hp, he⟩ := List.mem_map.1 hm
    have := h.lt p hp
    omega
  · intro r hr
    exact (h.rows r hr).alloc o
  · intro r hr k hk hm
    simp only [List.map_cons, List.mem_cons] at hm
    rcases hm with rfl | hm
    · have := ((h.rows r hr).lt _ hk).2; omega
    · exact h.off r hr k hk hm
theorem Cxr.turn (h : Cxr w0 w L R) (i : Nat) {b : Nat} {o o' : Obj} (hi : L[i]? = some (b, o)) (hos : w'.os = w.os) (ht : w'.tape = w.tape) (hou : w'.output = w.output)
    (hsz : w.heap.size ≤ w'.heap.size) (hb : w'.heap[b]? = some o') (hoth : ∀ k, k < w.heap.size → k ≠ b → w'.heap[k]? = w.heap[k]?) : Cxr w0 w' (L.set i (b, o')) R := by
  have hmem := List.mem_of_getElem? hi
  have hlo := h.lo _ hmem
  have hmap : (L.set i (b, o')).map (·.1) = L.map (·.1) := by
    apply List.ext_getElem?
    intro j
    simp only [List.getElem?_map, List.getElem?_set]
    split
    · rename_i he; subst he; simp [hi]; exact (List.getElem?_eq_some_iff.1 hi).1
    · rfl
  refine ⟨h.ext.trans ⟨hos, ht, hou, hsz, fun k hk => hoth k (Nat.lt_of_lt_of_le hk h.ext.size) (by simp at hlo; omega)⟩, ?_, ?_, ?_, ?_, ?_, h.pw⟩
  · intro p hp
    obtain ⟨j, hj⟩ := List.getElem?_of_mem hp
    rw [List.getElem?_set] at hj
    split at hj
    · split at hj
      · cases hj; exact hb
      · cases hj
    · rename_i hne
      have hp' := List.mem_of_getElem? hj
      rw [hoth p.1 (h.lt p hp') (fun he => ?_)]
      · exact h.own p hp'
      · have h1 : (L.map (·.1))[i]? = some b := by simp [hi]
        have h2 : (L.map (·.1))[j]? = some b := by simp [hj, he]
        have hlt : i < (L.map (·.1)).length := (List.getElem?_eq_some_iff.1 h1).1
        exact hne ((List.getElem?_inj hlt h.nd).1 (h1.trans h2.symm))
  · intro p hp
    rcases List.mem_or_eq_of_mem_set hp with hp | hp
    · exact h.lo p hp
    · subst hp; exact hlo
  · rw [hmap]; exact h.nd
  · intro r hr
    refine h.row_keep hr hos ht hou hsz fun k hk hv => hoth k hk fun e => ?_
    subst e
    exact h.off r hr _ hv (List.mem_map.2 ⟨_, hmem, rfl⟩)
  · intro r hr k hk hm
    rw [hmap] at hm
    exact h.off r hr k hk hm
theorem Cxr.nilRow (h : Cxr w0 w L R) (e size : Nat) : Cxr w0 w L (⟨e, size, .slice none 0 0, 0, []⟩ :: R) :=
  ⟨h.ext, h.own, h.lo, h.nd, fun r hr => by
    rcases List.mem_cons.1 hr with rfl | hr
    · exact World.ownsRow_nil _ _ _ _
    · exact h.rows r hr, fun r hr k hk => by
    rcases List.mem_cons.1 hr with rfl | hr
    · simp [Value.ownBlock] at hk
    · exact h.off r hr k hk, List.pairwise_cons.2 ⟨fun r _ k hk => by simp [Value.ownBlock] at hk, h.pw⟩⟩
theorem Cxr.addRow (h : Cxr w0 w L R) (r : Row) (hrow : w.ownsRow w0.heap.size r.e r.size r.v r.n r.xs) (hoff : ∀ k, r.v.ownBlock = some k → k ∉ L.map (·.1)) (hr : ∀ s ∈ R, ∀ k, r.v.ownBlock = some k → s.v.ownBlock ≠ some k) : Cxr w0 w L (r :: R) :=
  ⟨h.ext, h.own, h.lo, h.nd, fun s hs => by
    rcases List.mem_cons.1 hs with rfl | hs
    · exact hrow
    · exact h.rows s hs, fun s hs => by
    rcases List.mem_cons.1 hs with rfl | hs
    · exact hoff
    · exact h.off s hs, List.pairwise_cons.2 ⟨hr, h.pw⟩⟩
theorem Cxr.callRow (h : Cxr w0 w L R) (hb : Below w.heap.size w w') {e size n : Nat} {v : Value} {xs : List Value} (hrow : w'.ownsRow w.heap.size e size v n xs) : Cxr w0 w' L (⟨e, size, v, n, xs⟩ :: R) := by
  refine (h.call hb).addRow _ ⟨hrow.1, ?_⟩ ?_ ?_
  · rcases hrow.2 with h2 | ⟨g, cap, cur, h1, h2, h3⟩
    · exact .inl h2
    · exact .inr ⟨g, cap, cur, h1, Nat.le_trans h.ext.size h2, h3⟩
  · intro k hk hm
    obtain ⟨p, hp, rfl⟩ := List.mem_map.1 hm
    have h1 := (hrow.lt _ hk).1
    have h2 := h.lt p hp
    omega
  · intro s hs k hk hk'
    have h1 := (hrow.lt _ hk).1
    have h2 := ((h.rows s hs).lt _ hk').2
    omega
theorem Cxr.toRow {b e size k : Nat} {cs : List Value} (h : Cxr w0 w ((b, .cells cs.toArray e) :: L) R) (hl : cs.length = k * size) (hk : k ≤ maxLen) : Cxr w0 w L (⟨e, size, .slice (some ⟨b, 0, none⟩) k k, k, cs⟩ :: R) := by
  refine (h.drop 1).addRow _ ⟨hl, .inr ⟨b, k, cs.toArray, rfl, h.lo (b, .cells cs.toArray e) (by simp), h.own (b, .cells cs.toArray e) (by simp), Nat.le_refl _, hk, by simpa using hl, ?_⟩⟩ ?_ ?_
  · simp [← hl]
  · intro q hq
    simp only [Value.ownBlock, Option.some.injEq] at hq
    subst hq
    have := h.nd
    simp only [List.map_cons, List.nodup_cons] at this
    exact this.1
  · intro s hs q hq hq'
    simp only [Value.ownBlock, Option.some.injEq] at hq
    subst hq
    exact h.off s hs _ hq' (by simp)
end
section
variable {P : Program} {ops : Array Oper} {Q : Exit → Act → World → Prop} {rest : List Oper} {o : Oper} {n : Nat} {f : Nat → Value} {w w0 : World} {L : List (Nat × Obj)} {R : List Row}
theorem run_box (t : TypeId) (v : Value) : (Instr.box t v).run P w = .ok (.pointer (some ⟨w.heap.size, 0, none⟩)) (w.alloc (.cells v.cells t)) := by
  simp [Instr.box, newVar, newRow]
theorem s_box {d : Nat} {t : TypeId} {x : Operand} {v : Value} {cs : List Value} (cx : Cxr w0 w L R) (hg : o.guard = none) (hd : o.dst = some d) (ho : o.op = .box t x) (hx : ev n f x = v) (hv : v.cells = cs.toArray)
    (h : ∀ b w', Cxr w0 w' ((b, .cells cs.toArray t) :: L) R → w.heap.size = b → Below w.heap.size w w' → wpList P ops Q rest (St n (upd f d (.pointer (some ⟨b, 0, none⟩)))) w') : wpList P ops Q (o :: rest) (St n f) w := by
  refine s_new (w' := w.alloc (.cells v.cells t)) (v := .pointer (some ⟨w.heap.size, 0, none⟩)) hg hd ?_ ?_
  · unfold execOp; rw [ho]; simp [hx, run_box]
  · rw [hv]; exact h _ _ (cx.alloc _) rfl ((Below.refl _ _).alloc (Nat.le_refl _) _)
def Zero (P : Program) (t : TypeId) (l : List Value) : Prop := ∃ v, (∀ w, (zeroValue t).run P w = .ok v w) ∧ v.cells = l.toArray
theorem zero_of {t : TypeId} {v : Value} {l : List Value} (h : (P.info? t).map (·.zero) = some (some v)) (hl : v.cells = l.toArray) : Zero P t l := by
  refine ⟨v, fun w => ?_, hl⟩
  cases hi : P.info? t with
  | none => simp [hi] at h
  | some i => simp [hi] at h; simp [zeroValue, typeInfo, hi, h]
theorem s_alloc {d : Nat} {t : TypeId} {cs : List Value} (cx : Cxr w0 w L R) (hz : Zero P t cs) (hg : o.guard = none) (hd : o.dst = some d) (ho : o.op = .alloc t)
    (h : ∀ b w', Cxr w0 w' ((b, .cells cs.toArray t) :: L) R → w.heap.size = b → Below w.heap.size w w' → wpList P ops Q rest (St n (upd f d (.pointer (some ⟨b, 0, none⟩)))) w') : wpList P ops Q (o :: rest) (St n f) w := by
  obtain ⟨v, hv, hl⟩ := hz
  refine s_new (w' := w.alloc (.cells v.cells t)) (v := .pointer (some ⟨w.heap.size, 0, none⟩)) hg hd ?_ ?_
  · unfold execOp; rw [ho]; simp [Instr.alloc, hv w, newVar, newRow]
  · rw [hl]; exact h _ _ (cx.alloc _) rfl ((Below.refl _ _).alloc (Nat.le_refl _) _)
theorem setRow_ctx {b : Nat} {old new : Array Value} {t : TypeId} (cx : Cxr w0 w L R) (i : Nat) (hi : L[i]? = some (b, .cells old t)) : Cxr w0 (w.setRow b new) (L.set i (b, .cells new t)) R := by
  have hb := cx.at i hi
  refine cx.turn i hi rfl rfl rfl (by simp) (setRow_heap w b old new t _ hb) fun k _ hne => setRow_other w b k new hne
theorem s_storeAll {t T : TypeId} {x y : Operand} {b : Nat} {l cs : List Value} (cx : Cxr w0 w L R) (i : Nat) (hg : o.guard = none) (hd : o.dst = none) (ho : o.op = .store t x y) (hx : ev n f x = .pointer (some ⟨b, 0, none⟩)) (hy : ev n f y = .agg l.toArray)
    (hi : L[i]? = some (b, .cells cs.toArray T)) (hs : (P.info? t).map (·.size) = some l.length) (hlen : cs.length = l.length) (h1 : l.all (·.oneCell') = true)
    (h : ∀ w', Cxr w0 w' (L.set i (b, .cells l.toArray T)) R → w'.heap.size = w.heap.size → wpList P ops Q rest (St n f) w') : wpList P ops Q (o :: rest) (St n f) w := by
  have hb := cx.at i hi
  refine s_put (w' := w.setRow b l.toArray) hg hd ?_ (h _ (setRow_ctx cx i hi) (by simp))
  have := run_storeVar_row (P := P) w b T t cs.toArray l.toArray hb (by simpa using hs) (by simpa using hlen) (by simpa using h1)
  unfold execOp; rw [ho]
  simp [hx, hy, Instr.storeAt, Instr.sureAddr, this]
theorem s_store1 {t T : TypeId} {x y : Operand} {b j : Nat} {cs : List Value} {v : Value} (cx : Cxr w0 w L R) (i : Nat) (hg : o.guard = none) (hd : o.dst = none) (ho : o.op = .store t x y) (hx : ev n f x = .pointer (some ⟨b, j, none⟩)) (hy : ev n f y = v) (h1 : v.oneCell' = true)
    (hi : L[i]? = some (b, .cells cs.toArray T)) (hj : Nat.blt j cs.length = true) (hs : (P.info? t).map (·.size) = some 1)
    (h : ∀ w', Cxr w0 w' (L.set i (b, .cells (cs.set j v).toArray T)) R → w'.heap.size = w.heap.size → wpList P ops Q rest (St n f) w') : wpList P ops Q (o :: rest) (St n f) w := by
  have hb := cx.at i hi
  have hj' : j < cs.length := by simpa [blt_iff] using hj
  have hc : v.cells = #[v] := by cases v <;> first | rfl | simp [Value.oneCell'] at h1
  have hcell : w.cell? ⟨b, j, none⟩ = some cs[j] := by rw [cell_of_row w b j _ T _ hb]; simp [hj']
  have hfr : w.frozen? ⟨b, j, none⟩ = false := frozen_of_row w b j _ T hb
  refine s_put (w' := w.setCell ⟨b, j, none⟩ v) hg hd ?_ (h _ ?_ (by simp))
  · unfold execOp; rw [ho]
    simp [hx, hy, Instr.storeAt, Instr.sureAddr, storeVar, run_size (w := w) hs, hc, storeCells, run_store P w _ v _ h1, add_addr, hcell, hfr]
  · refine cx.turn i hi rfl rfl rfl (by simp) ?_ fun k _ hne => Below.heap_setCell w _ v k hne
    rw [heap_setCell_same w b j _ T v hb]
    simp
theorem s_call {d k : Nat} {az : Array Operand} {ats : Array TypeId} {fn : Func} {args : List Value} {R : Value → World → Prop} (hc : Ret P k args w R) (hf : P.funcs[k]? = some fn) (hb : fn.body.isNone = false) (hn : (fn.name == "runtime.NumGoroutine") = false)
    (hg : o.guard = none) (hd : o.dst = some d) (ho : o.op = .call { callee := .value (.func k), args := az, argTypes := ats }) (hargs : az.toList.map (ev n f) = args)
    (h : ∀ v w', R v w' → wpList P ops Q rest (St n (upd f d v)) w') : wpList P ops Q (o :: rest) (St n f) w := by
  refine wpList_plain hg fun K hK => ?_
  have hrun : (execOp (ev n f) o).run P w = .ok (.enter k args.toArray) w := by
    have h1 : fn.name ≠ "runtime.NumGoroutine" := by simpa using hn
    have h2 : ¬ fn.body = none := by intro e; simp [e] at hb
    unfold execOp; rw [ho]
    have e : az.map (ev n f) = args.toArray := by rw [← hargs]; apply Array.ext'; simp
    simp [resolve, e, ev, Deferred.ofValue, invoke, callFunc, hf, h1, h2]
  unfold Oper.wp
  rw [eval_St, hrun]
  refine Calls.mono hc ?_
  rintro e w' ⟨v, rfl, hv⟩
  show K ((St n f).put o.dst v) w'
  refine hK _ _ ?_
  rw [hd, put_St]
  exact h v w' hv
end
theorem least_of {p : Nat → Prop} (h : ∃ k, p k) : ∃ k, p k ∧ ∀ j, p j → k ≤ j := by
  classical
  obtain ⟨k, hk⟩ := h
  induction k using Nat.strongRecOn with
  | _ k ih =>
    by_cases hj : ∃ j, j < k ∧ p j
    · obtain ⟨j, hlt, hp⟩ := hj
      exact ih j hlt hp
    · exact ⟨k, hk, fun j hp => Nat.le_of_not_lt fun hlt => hj ⟨j, hlt, hp⟩⟩
theorem w_loop {P : Program} {c : Code} {Q : Exit → Act → World → Prop} {n : Nat} {f : Nat → Value} {w : World} (J : Nat → (Nat → Value) → World → Prop) (k0 : Nat) (h0 : J k0 f w)
    (round : ∀ k f w, J k f w → c.wp P (Exit.then (fun a' w' => ∃ k' f', k' < k ∧ a' = St n f' ∧ J k' f' w') Q) (St n f) w) : (Code.loop c).wp P Q (St n f) w := by
  classical
  let ok : Act → World → Nat → Prop := fun a w k => ∃ f', a = St n f' ∧ J k f' w
  let least : Act → World → Nat := fun a w => if h : ∃ k, ok a w k then Classical.choose (least_of h) else 0
  refine wp_loop (fun a w => ∃ k, ok a w k) least ⟨k0, f, rfl, h0⟩ ?_
  intro a w hI
  have hl := Classical.choose_spec (least_of hI)
  have hle : least a w = Classical.choose (least_of hI) := dif_pos hI
  obtain ⟨f1, ha, hJ⟩ := hl.1
  subst ha
  refine wp_mono (round _ f1 w hJ) ?_
  intro e a' w' hq
  cases e with
  | normal =>
    obtain ⟨k', f', hlt, ha', hJ'⟩ := hq
    have hI' : ∃ k, ok a' w' k := ⟨k', f', ha', hJ'⟩
    refine ⟨hI', ?_⟩
    rw [hle]
    have hl' := Classical.choose_spec (least_of hI')
    have hle' : least a' w' = Classical.choose (least_of hI') := dif_pos hI'
    rw [hle']
    exact Nat.lt_of_le_of_lt (hl'.2 k' ⟨f', ha', hJ'⟩) hlt
  | _ => exact hq
end Go.Dk
end
section
namespace Go.Dk
open Go Go.RowKit
def Fc (P : Program) (k : FuncId) (args : List Value) (w : World) (R : Value → World → Prop) : Prop :=
  Ret P k args w fun v w' => Below w.heap.size w w' ∧ R v w'
theorem Fc.mono {P : Program} {k : FuncId} {args : List Value} {w : World} {R R' : Value → World → Prop} (h : Fc P k args w R) (hr : ∀ v w', Below w.heap.size w w' → R v w' → R' v w') : Fc P k args w R' :=
  Ret.mono h fun v w' ⟨a, b⟩ => ⟨a, hr v w' a b⟩
section
variable {P : Program} {ops : Array Oper} {Q : Exit → Act → World → Prop} {rest : List Oper} {o : Oper} {n : Nat} {f : Nat → Value} {w w0 : World} {L : List (Nat × Obj)} {R : List Row} {ρ : Operand → Value}
theorem run_callOp {k : Nat} {az : Array Operand} {ats : Array TypeId} {fn : Func} {args : List Value} (hf : P.funcs[k]? = some fn) (hb : fn.body.isNone = false) (hn : (fn.name == "runtime.NumGoroutine") = false)
    (ho : o.op = .call { callee := .value (.func k), args := az, argTypes := ats }) (hargs : az.toList.map (ev n f) = args) : (execOp (ev n f) o).run P w = .ok (.enter k args.toArray) w := by
  have h1 : fn.name ≠ "runtime.NumGoroutine" := by simpa using hn
  have h2 : ¬ fn.body = none := by intro e; simp [e] at hb
  unfold execOp; rw [ho]
  have e : az.map (ev n f) = args.toArray := by rw [← hargs]; apply Array.ext'; simp
  simp [resolve, e, ev, Deferred.ofValue, invoke, callFunc, hf, h1, h2]
theorem s_fn {d k : Nat} {az : Array Operand} {ats : Array TypeId} {fn : Func} {args : List Value} {T : Value → World → Prop} (cx : Cxr w0 w L R) (hc : Fc P k args w T) (hf : P.funcs[k]? = some fn) (hb : fn.body.isNone = false) (hn : (fn.name == "runtime.NumGoroutine") = false)
    (hg : o.guard = none) (hd : o.dst = some d) (ho : o.op = .call { callee := .value (.func k), args := az, argTypes := ats }) (hargs : az.toList.map (ev n f) = args)
    (h : ∀ v w', Cxr w0 w' L R → Below w.heap.size w w' → T v w' → wpList P ops Q rest (St n (upd f d v)) w') : wpList P ops Q (o :: rest) (St n f) w :=
  s_call hc hf hb hn hg hd ho hargs fun v w' ⟨hw, hr⟩ => h v w' (cx.call hw) hw hr
theorem s_gfn {d j dj k : Nat} {pol c : Bool} {az : Array Operand} {ats : Array TypeId} {fn : Func} {args : List Value} {T : Value → World → Prop} (cx : Cxr w0 w L R) (hg : o.guard = some (j, pol)) (hd : o.dst = some d) (hj : (ops[j]?).bind (·.dst) = some dj) (hw : WantB (ev n f (.tmp dj)) pol c)
    (hc : c = true → Fc P k args w T) (hf : P.funcs[k]? = some fn) (hb : fn.body.isNone = false) (hn : (fn.name == "runtime.NumGoroutine") = false)
    (ho : o.op = .call { callee := .value (.func k), args := az, argTypes := ats }) (hargs : c = true → az.toList.map (ev n f) = args)
    (h : ∀ v w', Cxr w0 w' L R → Below w.heap.size w w' → (c = true → T v w') → wpList P ops Q rest (St n (upd f d (gv c v))) w') : wpList P ops Q (o :: rest) (St n f) w := by
  have hwant := wanted_St (o := o) (ops := ops) hg hj hw
  refine wpList_step fun K hK => ?_
  rw [hwant]
  cases c with
  | true =>
    simp only [if_true]
    unfold Oper.wp
    rw [eval_St, run_callOp hf hb hn ho (hargs rfl)]
    refine Calls.mono (hc rfl) ?_
    rintro e w' ⟨v, rfl, hbel, hr⟩
    show K ((St n f).put o.dst v) w'
    refine hK _ _ ?_
    rw [hd, put_St]
    have h := h v w' (cx.call hbel) hbel fun _ => hr
    unfold gv at h
    exact h
  | false =>
    simp only [Bool.false_eq_true, if_false]
    refine hK _ _ ?_
    rw [hd, put_St]
    have h := h undef w cx (Below.refl _ _) (fun e => by cases e)
    unfold gv at h
    exact h
def IsB (p : Bool → Prop) (v : Value) (_ : World) : Prop := ∃ b, v = .bool b ∧ p b
def IsI (p : Int → Prop) (v : Value) (_ : World) : Prop := ∃ m, v = .int .i64 m ∧ p m
theorem s_fnB {d k : Nat} {az : Array Operand} {ats : Array TypeId} {fn : Func} {args : List Value} {p : Bool → Prop} (cx : Cxr w0 w L R) (hc : Fc P k args w (IsB p)) (hf : P.funcs[k]? = some fn) (hb : fn.body.isNone = false) (hn : (fn.name == "runtime.NumGoroutine") = false)
    (hg : o.guard = none) (hd : o.dst = some d) (ho : o.op = .call { callee := .value (.func k), args := az, argTypes := ats }) (hargs : az.toList.map (ev n f) = args)
    (h : ∀ b w', Cxr w0 w' L R → Below w.heap.size w w' → p b → wpList P ops Q rest (St n (upd f d (.bool b))) w') : wpList P ops Q (o :: rest) (St n f) w :=
  s_fn cx hc hf hb hn hg hd ho hargs fun v w' hcx hw ⟨b, hv, hp⟩ => by subst hv; exact h b w' hcx hw hp
theorem s_fnI {d k : Nat} {az : Array Operand} {ats : Array TypeId} {fn : Func} {args : List Value} {p : Int → Prop} (cx : Cxr w0 w L R) (hc : Fc P k args w (IsI p)) (hf : P.funcs[k]? = some fn) (hb : fn.body.isNone = false) (hn : (fn.name == "runtime.NumGoroutine") = false)
    (hg : o.guard = none) (hd : o.dst = some d) (ho : o.op = .call { callee := .value (.func k), args := az, argTypes := ats }) (hargs : az.toList.map (ev n f) = args)
    (h : ∀ m w', Cxr w0 w' L R → Below w.heap.size w w' → p m → wpList P ops Q rest (St n (upd f d (.int .i64 m))) w') : wpList P ops Q (o :: rest) (St n f) w :=
  s_fn cx hc hf hb hn hg hd ho hargs fun v w' hcx hw ⟨b, hv, hp⟩ => by subst hv; exact h b w' hcx hw hp
theorem s_gfnB {d j dj k : Nat} {pol c : Bool} {az : Array Operand} {ats : Array TypeId} {fn : Func} {args : List Value} {p : Bool → Prop} (cx : Cxr w0 w L R) (hg : o.guard = some (j, pol)) (hd : o.dst = some d) (hj : (ops[j]?).bind (·.dst) = some dj) (hw : WantB (ev n f (.tmp dj)) pol c)
    (hc : c = true → Fc P k args w (IsB p)) (hf : P.funcs[k]? = some fn) (hb : fn.body.isNone = false) (hn : (fn.name == "runtime.NumGoroutine") = false)
    (ho : o.op = .call { callee := .value (.func k), args := az, argTypes := ats }) (hargs : c = true → az.toList.map (ev n f) = args)
    (h : ∀ b w', Cxr w0 w' L R → Below w.heap.size w w' → (c = true → p b) → wpList P ops Q rest (St n (upd f d (gv c (.bool b)))) w') : wpList P ops Q (o :: rest) (St n f) w := by
  refine s_gfn cx hg hd hj hw hc hf hb hn ho hargs fun v w' hcx hbel hr => ?_
  cases c with
  | true =>
    obtain ⟨b, rfl, hp⟩ := hr rfl
    exact h b w' hcx hbel fun _ => hp
  | false =>
    have h := h false w' hcx hbel fun e => by cases e
    unfold gv at h ⊢
    exact h
theorem s_gfnI {d j dj k : Nat} {pol c : Bool} {az : Array Operand} {ats : Array TypeId} {fn : Func} {args : List Value} {p : Int → Prop} (cx : Cxr w0 w L R) (hg : o.guard = some (j, pol)) (hd : o.dst = some d) (hj : (ops[j]?).bind (·.dst) = some dj) (hw : WantB (ev n f (.tmp dj)) pol c)
    (hc : c = true → Fc P k args w (IsI p)) (hf : P.funcs[k]? = some fn) (hb : fn.body.isNone = false) (hn : (fn.name == "runtime.NumGoroutine") = false)
    (ho : o.op = .call { callee := .value (.func k), args := az, argTypes := ats }) (hargs : c = true → az.toList.map (ev n f) = args)
    (h : ∀ m w', Cxr w0 w' L R → Below w.heap.size w w' → (c = true → p m) → wpList P ops Q rest (St n (upd f d (gv c (.int .i64 m)))) w') : wpList P ops Q (o :: rest) (St n f) w := by
  refine s_gfn cx hg hd hj hw hc hf hb hn ho hargs fun v w' hcx hbel hr => ?_
  cases c with
  | true =>
    obtain ⟨b, rfl, hp⟩ := hr rfl
    exact h b w' hcx hbel fun _ => hp
  | false =>
    have h := h 0 w' hcx hbel fun e => by cases e
    unfold gv at h ⊢
    exact h
/-! ### numbers and strings -/
theorem v_conv {s t : TypeId} {x : Operand} {k k' : IntKind} {m : Int} {d : TypeDesc} (ho : o.op = .convert s t x) (hx : ρ x = .int k' m) (hs : P.underlying s = some d) (ht : P.underlying t = some (.int k)) :
    (execOp ρ o).run P w = .ok (.value (.int k (k.wrap m))) w := by
  unfold execOp; rw [ho]
  simp [hx, convert, run_underlying hs, run_underlying ht, Conv.intToInt]
theorem wrap_u8 {m : Int} (h0 : 0 ≤ m) (h1 : m < 256) : IntKind.i64.wrap m = m := IntWalk.i64_in _ (by omega)
theorem v_ofByte {s t : TypeId} {x : Operand} {m : Int} {d : TypeDesc} (ho : o.op = .convert s t x) (hx : ρ x = .int .u8 m) (hs : P.underlying s = some d) (ht : P.underlying t = some (.int .i64)) (h0 : 0 ≤ m) (h1 : m < 256) :
    (execOp ρ o).run P w = .ok (.value (.int .i64 m)) w := by
  have := v_conv (w := w) ho hx hs ht
  rwa [wrap_u8 h0 h1] at this
def bitOp (op : BinOp) (k : IntKind) (x y : Int) : Int :=
  match op with
  | .and => k.wrap (BitVec.ofInt k.bits x &&& BitVec.ofInt k.bits y).toNat
  | .or => k.wrap (BitVec.ofInt k.bits x ||| BitVec.ofInt k.bits y).toNat
  | _ => 0
theorem v_band {t t' : TypeId} {x y : Operand} {k : IntKind} {p q : Int} (ho : o.op = .binOp .and t x y t') (hx : ρ x = .int k p) (hy : ρ y = .int k q) : (execOp ρ o).run P w = .ok (.value (.int k (bitOp .and k p q))) w := by
  unfold execOp; rw [ho]
  simp [hx, hy, eqGuard, binOp, Op.intBits, bitOp]
theorem v_bor {t t' : TypeId} {x y : Operand} {k : IntKind} {p q : Int} (ho : o.op = .binOp .or t x y t') (hx : ρ x = .int k p) (hy : ρ y = .int k q) : (execOp ρ o).run P w = .ok (.value (.int k (bitOp .or k p q))) w := by
  unfold execOp; rw [ho]
  simp [hx, hy, eqGuard, binOp, Op.intBits, bitOp]
def shl (k : IntKind) (x : Int) (y : Nat) : Int := k.wrap (x * 2 ^ min y k.bits)
def shr (k : IntKind) (x : Int) (y : Nat) : Int := x.fdiv (2 ^ min y k.bits)
theorem v_shl {t t' : TypeId} {x y : Operand} {k k' : IntKind} {p q : Int} (ho : o.op = .binOp .shl t x y t') (hx : ρ x = .int k p) (hy : ρ y = .int k' q) (h0 : 0 ≤ q) : (execOp ρ o).run P w = .ok (.value (.int k (shl k p q.toNat))) w := by
  unfold execOp; rw [ho]
  have : ¬ q < 0 := by omega
  simp [hx, hy, eqGuard, binOp, Op.shift, shl, this]
theorem v_shr {t t' : TypeId} {x y : Operand} {k k' : IntKind} {p q : Int} (ho : o.op = .binOp .shr t x y t') (hx : ρ x = .int k p) (hy : ρ y = .int k' q) (h0 : 0 ≤ q) : (execOp ρ o).run P w = .ok (.value (.int k (shr k p q.toNat))) w := by
  unfold execOp; rw [ho]
  have : ¬ q < 0 := by omega
  simp [hx, hy, eqGuard, binOp, Op.shift, shr, this]
def byteAt (s : ByteArray) (m : Int) : Int := ((s.data.toList.getD m.toNat 0).toNat : Int)
theorem byteAt_lo (s : ByteArray) (m : Int) : 0 ≤ byteAt s m := by unfold byteAt; omega
theorem byteAt_hi (s : ByteArray) (m : Int) : byteAt s m < 256 := by
  unfold byteAt; have := (s.data.toList.getD m.toNat 0).toNat_lt; omega
theorem v_idxStr {t : TypeId} {x y : Operand} {s : ByteArray} {k : IntKind} {m : Int} (ho : o.op = .index t x y) (hx : ρ x = .string s) (hy : ρ y = .int k m) (hu : P.underlying t = some .string) (h0 : 0 ≤ m) (h1 : m < s.size) :
    (execOp ρ o).run P w = .ok (.value (.int .u8 (byteAt s m))) w := by
  unfold execOp; rw [ho]
  have hlt : m.toNat < s.size := by omega
  have e : s[m.toNat]? = some s[m.toNat] := ByteArray.getElem?_lt' s _ hlt
  have hlt' : m.toNat < s.data.size := hlt
  have e2 : (s.data.toList.getD m.toNat 0) = s[m.toNat] := by
    rw [List.getD, List.getElem?_eq_getElem (by simpa using hlt')]; rfl
  unfold byteAt
  rw [e2]
  simp [hx, hy, Instr.index, asIntOf, run_underlying hu, h0, e]
theorem v_subStr {t : TypeId} {x y z : Operand} {s : ByteArray} {k k' : IntKind} {m l : Int} (ho : o.op = .slice t x (some y) (some z) none) (hx : ρ x = .string s) (hy : ρ y = .int k m) (hz : ρ z = .int k' l) (hu : P.underlying t = some .string) (h0 : 0 ≤ m) (h1 : m ≤ l) (h2 : l ≤ s.size) :
    (execOp ρ o).run P w = .ok (.value (.string (s.extract m.toNat l.toNat))) w := by
  unfold execOp; rw [ho]
  have h3 : 0 ≤ l := by omega
  simp [hx, hy, hz, Instr.sliceAt, Instr.slice, Instr.sliceBounds, Instr.sliceBound, asIntOf, run_underlying hu, h0, h2, h3]
  intro h4
  omega
/-! ### slices that the call makes -/
def EI (P : Program) (e size bytes : Nat) : Prop := ∃ i z, P.info? e = some i ∧ i.zero = some z ∧ i.size = size ∧ i.bytes = bytes ∧ z.cells.size = size ∧ 0 < size ∧ 0 < bytes
theorem ei_of {e size bytes : Nat} {z : Value} (h : (P.info? e).map (fun i => (i.zero, i.size, i.bytes)) = some (some z, size, bytes)) (hz : z.cells.size = size) (h0 : Nat.blt 0 size = true) (h1 : Nat.blt 0 bytes = true) : EI P e size bytes := by
  obtain ⟨i, hi, hzz⟩ := Option.map_eq_some_iff.1 h
  simp only [Prod.mk.injEq] at hzz
  rw [blt_iff] at h0 h1
  exact ⟨i, z, hi, hzz.1, hzz.2.1, hzz.2.2, hz, by simpa using h0, by simpa using h1⟩
theorem run_append_new {t ty e size bytes : Nat} {v : Value} {k m c base : Nat} {ad : Addr} {xs news : List Value} (ei : EI P e size bytes) (ht : P.underlying t = some (.slice e)) (hown : w.ownsRow base e size v k xs)
    (hl : news.length = m * size) (hnews : ∀ j u, news[j]? = some u → w.cell? (ad.add j) = some u) (h1 : ∀ u ∈ news, u.oneCell' = true) (hb : (k + m) * bytes ≤ 140737488355328) (hbase : base ≤ w.heap.size) :
    ∃ v' w', (Builtin.append_ #[t, t] ty #[v, .slice (some ad) m c]).run P w = .ok v' w' ∧ w'.ownsRow base e size v' (k + m) (xs ++ news) ∧ w.grownBy w' v.ownBlock ∧
      (∀ q, v'.ownBlock = some q → v.ownBlock = some q ∨ w.heap.size ≤ q) := by
  obtain ⟨i, z, hi, hz, hsz, hby, hzs, hp, hpb⟩ := ei
  have hle : k + m ≤ (k + m) * bytes := Nat.le_mul_of_pos_right _ hpb
  obtain ⟨v', w', hrun, hrow, hgr, hnil⟩ := run_append_own (P := P) w base t ty e i z size bytes ht hi hz hsz hby hzs hp v k xs hown ad m c news hl hnews h1 (by unfold maxLen; omega) hb hbase
  refine ⟨v', w', hrun, hrow, hgr, ?_⟩
  intro q hq
  subst hsz
  subst hby
  rcases hown.2 with ⟨rfl, rfl⟩ | ⟨g, cap, cur, rfl, hbg, hg, hnc, hcm, hcs, htake⟩
  · by_cases hm : m = 0
    · rw [hnil.2 ⟨rfl, hm⟩] at hq
      simp [Value.ownBlock] at hq
    · have hr := run_append_nil (P := P) w t ty e i z ht hi hz ad m c news hl hnews (by omega) (by omega) (by simp only [Nat.zero_add] at hb; omega)
      rw [hr] at hrun
      cases hrun
      simp only [Value.ownBlock, Option.some.injEq] at hq
      exact .inr (by omega)
  · by_cases hroom : k + m ≤ cap
    · have hfit : k * i.size + news.length ≤ cur.size := by rw [hl, hcs, ← Nat.add_mul]; exact Nat.mul_le_mul_right _ hroom
      have hr := run_append_room (P := P) w t ty e i ht hi g k cap cur hg ad m c news hl hnews h1 hroom hfit
      rw [hr] at hrun
      cases hrun
      exact .inl hq
    · have holds : ∀ j u, xs[j]? = some u → w.cell? ((⟨g, 0, none⟩ : Addr).add j) = some u := hown.cells (g := g) rfl
      have hr := run_append_grow (P := P) w t ty e i z ht hi hz ⟨g, 0, none⟩ k cap xs hown.1 holds ad m c news hl hnews (by omega) (by omega) (growslice_fits (by omega) hb)
      rw [hr] at hrun
      cases hrun
      simp only [Value.ownBlock, Option.some.injEq] at hq
      exact .inr (by omega)
theorem s_append' {s x : Operand} {t e size bytes : Nat} {v : Value} {k m c d : Nat} {ad : Addr} {xs news : List Value} (cx : Cxr w0 w L (⟨e, size, v, k, xs⟩ :: R)) (ei : EI P e size bytes) (ht : P.underlying t = some (.slice e))
    (hg : o.guard = none) (hd : o.dst = some d) (ho : o.op = .call { callee := .builtin .append, args := #[s, x], argTypes := #[t, t] }) (hs : ev n f s = v) (hx : ev n f x = .slice (some ad) m c)
    (hr : ∀ j u, news[j]? = some u → w.cell? (ad.add j) = some u) (hl : news.length = m * size) (h1 : news.all (·.oneCell') = true) (hb : (k + m) * bytes ≤ 140737488355328)
    (h : ∀ v' w', Cxr w0 w' L (⟨e, size, v', k + m, xs ++ news⟩ :: R) → w.grownBy w' v.ownBlock → wpList P ops Q rest (St n (upd f d v')) w') : wpList P ops Q (o :: rest) (St n f) w := by
  have hrow0 := cx.rows _ (List.mem_cons_self ..)
  have hoff0 := cx.off _ (List.mem_cons_self ..)
  have hpw0 := (List.pairwise_cons.1 cx.pw).1
  simp only at hrow0 hoff0
  obtain ⟨v', w', hrun, hrow, hgr, hnew⟩ := run_append_new (P := P) (ty := o.type) (c := c) (ad := ad) ei ht hrow0 hl hr (by simpa using h1) hb cx.ext.size
  have hcx0 : Cxr w0 w' L R := by
    refine ⟨cx.ext.grown hgr cx.ext.size (fun k hk => (hrow0.lt k hk).1), ?_, cx.lo, cx.nd, ?_, fun r hr => cx.off r (List.mem_cons_of_mem _ hr), (List.pairwise_cons.1 cx.pw).2⟩
    · intro p hp'
      rw [hgr.block p.1 (cx.lt p hp') (fun e => hoff0 p.1 e.symm (List.mem_map.2 ⟨p, hp', rfl⟩))]
      exact cx.own p hp'
    · intro r hr
      refine cx.row_keep (List.mem_cons_of_mem _ hr) hgr.os hgr.tape hgr.output hgr.size fun q hq hv => hgr.block q hq fun e => ?_
      exact hpw0 r hr q e.symm hv
  refine s_new (w' := w') (v := v') hg hd ?_ (h v' w' (hcx0.addRow _ hrow ?_ ?_) hgr)
  · unfold execOp; rw [ho]
    simp [resolve, invoke, builtin, hs, hx, hrun, Result.andThen]
  · intro q hq hm
    obtain ⟨p, hp', rfl⟩ := List.mem_map.1 hm
    rcases hnew _ hq with h2 | h2
    · exact hoff0 _ h2 (List.mem_map.2 ⟨p, hp', rfl⟩)
    · have := cx.lt p hp'; omega
  · intro r hr q hq hq'
    rcases hnew _ hq with h2 | h2
    · exact hpw0 r hr q h2 hq'
    · have := ((cx.rows r (List.mem_cons_of_mem _ hr)).lt _ hq').2; omega
theorem s_append {s x : Operand} {t e size bytes : Nat} {v : Value} {k m c b off d : Nat} {xs news : List Value} (cx : Cxr w0 w L (⟨e, size, v, k, xs⟩ :: R)) (ei : EI P e size bytes) (ht : P.underlying t = some (.slice e))
    (hg : o.guard = none) (hd : o.dst = some d) (ho : o.op = .call { callee := .builtin .append, args := #[s, x], argTypes := #[t, t] }) (hs : ev n f s = v) (hx : ev n f x = .slice (some ⟨b, off, none⟩) m c)
    (hr : RowAt w b off news) (hl : news.length = m * size) (h1 : news.all (·.oneCell') = true) (hb : (k + m) * bytes ≤ 140737488355328)
    (h : ∀ v' w', Cxr w0 w' L (⟨e, size, v', k + m, xs ++ news⟩ :: R) → w.grownBy w' v.ownBlock → wpList P ops Q rest (St n (upd f d v')) w') : wpList P ops Q (o :: rest) (St n f) w :=
  s_append' cx ei ht hg hd ho hs hx (fun j u hj => by rw [add_addr]; exact hr j u hj) hl h1 hb h
theorem s_append0 {s x : Operand} {t e size bytes : Nat} {v : Value} {k d : Nat} {xs : List Value} (cx : Cxr w0 w L (⟨e, size, v, k, xs⟩ :: R)) (ei : EI P e size bytes) (ht : P.underlying t = some (.slice e))
    (hg : o.guard = none) (hd : o.dst = some d) (ho : o.op = .call { callee := .builtin .append, args := #[s, x], argTypes := #[t, t] }) (hs : ev n f s = v) (hx : ev n f x = .slice none 0 0)
    (h : wpList P ops Q rest (St n (upd f d v)) w) : wpList P ops Q (o :: rest) (St n f) w := by
  obtain ⟨i, z, hi, hz, hsz, hby, hzs, hp, hpb⟩ := ei
  have hrun := run_append_owned_none (P := P) w w0.heap.size t o.type e i size ht hi v k xs (cx.rows _ (List.mem_cons_self ..))
  refine s_val (v := v) hg hd ?_ h
  unfold execOp; rw [ho]
  simp [resolve, invoke, builtin, hs, hx, hrun, Result.andThen]
theorem fold_set (c : List Value) : ∀ (i : Nat) (z : Array Value), z.size = i + c.length → ((c.zipIdx i).foldl (fun cs (p : Value × Nat) => cs.setIfInBounds p.2 p.1) z) = (z.toList.take i ++ c).toArray := by
  induction c with
  | nil =>
    intro i z h
    simp at h
    apply Array.ext'
    simp only [← h, List.append_nil]
    rw [List.take_of_length_le (by simp)]
    simp
  | cons x c ih =>
    intro i z h
    simp only [List.zipIdx_cons, List.foldl_cons]
    rw [ih (i + 1) _ (by simp at h ⊢; omega)]
    congr 1
    simp at h
    have hi : i < z.toList.length := by simp; omega
    rw [Array.toList_setIfInBounds, List.set_eq_take_append_cons_drop, if_pos hi]
    have h1 : (List.take i z.toList).length = i := by simp; omega
    rw [List.take_append, h1, List.take_take, Nat.min_eq_right (by omega)]
    simp
theorem s_bsl1 {t e size d : Nat} {x : Operand} {v : Value} {cs zs : List Value} (cx : Cxr w0 w L R) (ht : P.underlying t = some (.slice e)) (hs : (P.info? e).map (·.size) = some size) (hz : Zero P e zs) (hsm : Nat.ble size 1000 = true) (hp : Nat.blt 0 size = true)
    (hg : o.guard = none) (hd : o.dst = some d) (ho : o.op = .buildSlice t 1 #[(0, x)]) (hx : ev n f x = v) (hv : v.cells = cs.toArray) (hl : cs.length = size)
    (h : ∀ b w', Cxr w0 w' ((b, .cells cs.toArray e) :: L) R → w.heap.size = b → Below w.heap.size w w' → wpList P ops Q rest (St n (upd f d (.slice (some ⟨b, 0, none⟩) 1 1))) w') : wpList P ops Q (o :: rest) (St n f) w := by
  obtain ⟨z, hz1, hz2⟩ := hz
  have hp' : 0 < size := by simpa [blt_iff] using hp
  have hsm' : size ≤ 1000 := Nat.le_of_ble_eq_true hsm
  refine s_new (w' := w.alloc (.cells cs.toArray e)) (v := .slice (some ⟨w.heap.size, 0, none⟩) 1 1) hg hd ?_ (h _ _ (cx.alloc _) rfl ((Below.refl _ _).alloc (Nat.le_refl _) _))
  have hfill : Instr.fill (fun i => some (i * size, size)) ((Array.range (1 * size)).map (z.cells[· % z.cells.size]!)) [(0, v)] = some cs.toArray := by
    have hsz : ((Array.range (1 * size)).map (z.cells[· % z.cells.size]!)).size = size := by simp
    generalize (Array.range (1 * size)).map (z.cells[· % z.cells.size]!) = zz at hsz
    have := fold_set cs 0 zz (by omega)
    have hvs : v.cells.size = size := by rw [hv]; simpa using hl
    simp only [Instr.fill, Nat.zero_mul, Nat.zero_add, hvs, hsz]
    simp only [hv]
    simp at this ⊢
    exact this
  unfold execOp; rw [ho]
  have h0 : ¬ (size = 0) := by omega
  have h1 : ¬ (16777216 < size) := by omega
  simp only [Nat.one_mul] at hfill
  simp [Instr.buildSlice, hx, run_underlying ht, run_size (w := w) hs, h0, h1, hz1 w, hfill, newRow]
theorem s_bsl0 {t e size d : Nat} (cx : Cxr w0 w L R) (ht : P.underlying t = some (.slice e)) (hs : (P.info? e).map (·.size) = some size) (hg : o.guard = none) (hd : o.dst = some d) (ho : o.op = .buildSlice t 0 #[])
    (h : ∀ b w', Cxr w0 w' ((b, .cells #[] e) :: L) R → w.heap.size = b → Below w.heap.size w w' → wpList P ops Q rest (St n (upd f d (.slice (some ⟨b, 0, none⟩) 0 0))) w') : wpList P ops Q (o :: rest) (St n f) w := by
  refine s_new (w' := w.alloc (.cells #[] e)) (v := .slice (some ⟨w.heap.size, 0, none⟩) 0 0) hg hd ?_ (h _ _ (cx.alloc _) rfl ((Below.refl _ _).alloc (Nat.le_refl _) _))
  unfold execOp; rw [ho]
  have e0 : Array.map (fun _ : Nat => (default : Value)) (Array.range 0) = #[] := by simp [Array.range]
  simp [Instr.buildSlice, run_underlying ht, run_size (w := w) hs, Instr.fill, newRow, e0]
theorem s_bsl2 {t e d : Nat} {x y : Operand} {v u : Value} {z : Value} (cx : Cxr w0 w L R) (ht : P.underlying t = some (.slice e)) (hs : (P.info? e).map (·.size) = some 1) (hz : Zero P e [z])
    (hg : o.guard = none) (hd : o.dst = some d) (ho : o.op = .buildSlice t 2 #[(0, x), (1, y)]) (hx : ev n f x = v) (hy : ev n f y = u) (hv : v.cells = #[v]) (hu : u.cells = #[u])
    (h : ∀ b w', Cxr w0 w' ((b, .cells #[v, u] e) :: L) R → w.heap.size = b → Below w.heap.size w w' → wpList P ops Q rest (St n (upd f d (.slice (some ⟨b, 0, none⟩) 2 2))) w') : wpList P ops Q (o :: rest) (St n f) w := by
  obtain ⟨zv, hz1, hz2⟩ := hz
  refine s_new (w' := w.alloc (.cells #[v, u] e)) (v := .slice (some ⟨w.heap.size, 0, none⟩) 2 2) hg hd ?_ (h _ _ (cx.alloc _) rfl ((Below.refl _ _).alloc (Nat.le_refl _) _))
  unfold execOp; rw [ho]
  simp [Instr.buildSlice, hx, hy, run_underlying ht, run_size (w := w) hs, hz1 w, hz2, Instr.fill, hv, hu, newRow, Array.range, Array.zipIdx]
  rfl
theorem s_bsl3 {t e d : Nat} {x y y' : Operand} {v u u' : Value} {z : Value} (cx : Cxr w0 w L R) (ht : P.underlying t = some (.slice e)) (hs : (P.info? e).map (·.size) = some 1) (hz : Zero P e [z])
    (hg : o.guard = none) (hd : o.dst = some d) (ho : o.op = .buildSlice t 3 #[(0, x), (1, y), (2, y')]) (hx : ev n f x = v) (hy : ev n f y = u) (hy' : ev n f y' = u') (hv : v.cells = #[v]) (hu : u.cells = #[u]) (hu' : u'.cells = #[u'])
    (h : ∀ b w', Cxr w0 w' ((b, .cells #[v, u, u'] e) :: L) R → w.heap.size = b → Below w.heap.size w w' → wpList P ops Q rest (St n (upd f d (.slice (some ⟨b, 0, none⟩) 3 3))) w') : wpList P ops Q (o :: rest) (St n f) w := by
  obtain ⟨zv, hz1, hz2⟩ := hz
  refine s_new (w' := w.alloc (.cells #[v, u, u'] e)) (v := .slice (some ⟨w.heap.size, 0, none⟩) 3 3) hg hd ?_ (h _ _ (cx.alloc _) rfl ((Below.refl _ _).alloc (Nat.le_refl _) _))
  unfold execOp; rw [ho]
  simp [Instr.buildSlice, hx, hy, hy', run_underlying ht, run_size (w := w) hs, hz1 w, hz2, Instr.fill, hv, hu, hu', newRow, Array.range, Array.zipIdx]
  rfl
theorem s_bsl4 {t e d : Nat} {x y y' y'' : Operand} {v u u' u'' : Value} {z : Value} (cx : Cxr w0 w L R) (ht : P.underlying t = some (.slice e)) (hs : (P.info? e).map (·.size) = some 1) (hz : Zero P e [z])
    (hg : o.guard = none) (hd : o.dst = some d) (ho : o.op = .buildSlice t 4 #[(0, x), (1, y), (2, y'), (3, y'')]) (hx : ev n f x = v) (hy : ev n f y = u) (hy' : ev n f y' = u') (hy'' : ev n f y'' = u'') (hv : v.cells = #[v]) (hu : u.cells = #[u]) (hu' : u'.cells = #[u']) (hu'' : u''.cells = #[u''])
    (h : ∀ b w', Cxr w0 w' ((b, .cells #[v, u, u', u''] e) :: L) R → w.heap.size = b → Below w.heap.size w w' → wpList P ops Q rest (St n (upd f d (.slice (some ⟨b, 0, none⟩) 4 4))) w') : wpList P ops Q (o :: rest) (St n f) w := by
  obtain ⟨zv, hz1, hz2⟩ := hz
  refine s_new (w' := w.alloc (.cells #[v, u, u', u''] e)) (v := .slice (some ⟨w.heap.size, 0, none⟩) 4 4) hg hd ?_ (h _ _ (cx.alloc _) rfl ((Below.refl _ _).alloc (Nat.le_refl _) _))
  unfold execOp; rw [ho]
  simp [Instr.buildSlice, hx, hy, hy', hy'', run_underlying ht, run_size (w := w) hs, hz1 w, hz2, Instr.fill, hv, hu, hu', hu'', newRow, Array.range, Array.zipIdx]
  rfl
def strOf (ns : List Int) : ByteArray := ns.foldl (fun r n => r.push (UInt8.ofNat n.toNat)) ByteArray.empty
theorem v_b2s {s t e : TypeId} {x : Operand} {b off c : Nat} {ns : List Int} (ho : o.op = .convert s t x) (hs : P.underlying s = some (.slice e)) (he : P.underlying e = some (.int .u8)) (ht : P.underlying t = some .string)
    (hr : RowAt w b off (ns.map (Value.int .u8))) {m : Nat} (hm : ns.length = m) (hx : ρ x = .slice (some ⟨b, off, none⟩) m c) : (execOp ρ o).run P w = .ok (.value (.string (strOf ns))) w := by
  unfold execOp; rw [ho]
  subst hm
  have hl := run_loadCells_list (P := P) w ⟨b, off, none⟩ (ns.map (Value.int .u8)) (fun j v hv => by rw [add_addr]; exact hr j v hv)
  simp only [List.length_map] at hl
  have := run_bytesToString (P := P) w ⟨b, off, none⟩ ns.length c ns hl
  simp [hx, run_convert_bytes_string w s t e _ _ _ hs he ht, this, strOf]
end
theorem w_cut {P : Program} {x y : Code} {Q : Exit → Act → World → Prop} {n : Nat} {f : Nat → Value} {w : World} (J : (Nat → Value) → World → Prop)
    (h1 : x.wp P (Exit.then (fun a w => ∃ f, a = St n f ∧ J f w) Q) (St n f) w) (h2 : ∀ f w, J f w → y.wp P Q (St n f) w) : (Code.seq x y).wp P Q (St n f) w := by
  refine wp_seq (wp_mono h1 ?_)
  intro e a w hq
  cases e with
  | normal =>
    obtain ⟨f', rfl, hJ⟩ := hq
    exact h2 f' w hJ
  | _ => exact hq
theorem c_split {P : Program} {x y : Code} {Q : Exit → Act → World → Prop} {n : Nat} {f : Nat → Value} {w : World} {t : Nat} {b : Bool} (hc : ev n f (.tmp t) = .bool b) (ht : b = true → x.wp P Q (St n f) w) (hf : b = false → y.wp P Q (St n f) w) :
    (Code.cond (.tmp t) x y).wp P Q (St n f) w := wp_cond_split (by rw [eval_St]; exact hc) ht hf
theorem cons_eq {a b : Value} {l l' : List Value} (h : a = b) (t : l = l') : a :: l = b :: l' := by rw [h, t]
end Go.Dk
end
section
set_option linter.unusedVariables false
namespace Go.Dk
open Go Go.RowKit Go.Lib
def bs (l : List UInt8) : ByteArray := ⟨l.toArray⟩
theorem bs_append (a b : List UInt8) : bs a ++ bs b = bs (a ++ b) := by
  apply ByteArray.ext
  rw [ByteArray.data_append]
  apply Array.ext'
  simp [bs]
theorem bs_size (l : List UInt8) : (bs l).size = l.length := by simp [bs, ByteArray.size]
theorem bs_of (s : ByteArray) : bs s.data.toList = s := by cases s; rfl
def bv (x : UInt8) : Value := .int .u8 x.toNat
theorem cells_bs (l : List UInt8) : strCells (bs l) = l.map bv := rfl
theorem cells_of (s : ByteArray) : strCells s = s.data.toList.map bv := rfl
theorem u8t {n : Nat} (h : n < 256) : (UInt8.ofNat n).toNat = n := by rw [UInt8.toNat_ofNat']; omega
def EI8 (P : Program) (e : Nat) : Prop := ∃ i, P.info? e = some i ∧ i.zero = some (.int .u8 0) ∧ i.size = 1 ∧ i.bytes = 1
theorem ei8_of {P : Program} {e : Nat} (h : (P.info? e).map (fun i => (i.zero, i.size, i.bytes)) = some (some (.int .u8 0), 1, 1)) : EI8 P e := by
  obtain ⟨i, hi, hzz⟩ := Option.map_eq_some_iff.1 h
  simp only [Prod.mk.injEq] at hzz
  exact ⟨i, hi, hzz.1, hzz.2.1, hzz.2.2⟩
section
variable {P : Program} {ops : Array Oper} {Q : Exit → Act → World → Prop} {rest : List Oper} {o : Oper} {n : Nat} {f : Nat → Value} {w w0 : World} {L : List (Nat × Obj)} {R : List Row} {ρ : Operand → Value}
theorem run_append_newS {t u ty e : Nat} {v : Value} {k base : Nat} {xs : List Value} {s : ByteArray} (ei : EI8 P e) (ht : P.underlying t = some (.slice e)) (hu : P.underlying u = some .string) (hown : w.ownsRow base e 1 v k xs) (hb : k + s.size ≤ 140737488355328) (hbase : base ≤ w.heap.size) :
    ∃ v' w', (Builtin.append_ #[t, u] ty #[v, .string s]).run P w = .ok v' w' ∧ w'.ownsRow base e 1 v' (k + s.size) (xs ++ strCells s) ∧ w.grownBy w' v.ownBlock ∧ (∀ q, v'.ownBlock = some q → v.ownBlock = some q ∨ w.heap.size ≤ q) := by
  obtain ⟨i, hi, hz, hsz, hby⟩ := ei
  obtain ⟨v', w', hrun, hrow, hgr, hnil⟩ := run_append_own_string (P := P) w base t u ty e i ht hu hi hz hsz hby v k xs hown s (by unfold maxLen; omega) hb hbase
  refine ⟨v', w', hrun, hrow, hgr, ?_⟩
  intro q hq
  rcases hown.2 with ⟨rfl, rfl⟩ | ⟨g, cap, cur, rfl, hbg, hg, hnc, hcm, hcs, htake⟩
  · by_cases hm : s.size = 0
    · rw [hnil.2 ⟨rfl, hm⟩] at hq
      simp [Value.ownBlock] at hq
    · have hr := run_append_nil_string (P := P) w t u ty e i (.int .u8 0) ht hu hi hz s (by omega) (by omega) (by rw [hby]; omega)
      rw [hr] at hrun
      cases hrun
      simp only [Value.ownBlock, Option.some.injEq] at hq
      exact .inr (by omega)
  · by_cases hroom : k + s.size ≤ cap
    · have hr := run_append_room_string (P := P) w t u ty e i ht hu hi hsz g k cap cur hg s hroom (by omega)
      rw [hr] at hrun
      cases hrun
      exact .inl hq
    · have holds : ∀ j u, xs[j]? = some u → w.cell? ((⟨g, 0, none⟩ : Addr).add j) = some u := hown.cells (g := g) rfl
      have hr := run_append_grow_string (P := P) w t u ty e i (.int .u8 0) ht hu hi hz ⟨g, 0, none⟩ k cap xs (by rw [hsz]; exact hown.1) holds s (by omega) (by omega) (by rw [hby]; exact growslice_fits (by omega) (by omega))
      rw [hr] at hrun
      cases hrun
      simp only [Value.ownBlock, Option.some.injEq] at hq
      exact .inr (by omega)
theorem s_appendS {x y : Operand} {t u e : Nat} {v : Value} {k d : Nat} {xs : List Value} {s : ByteArray} (cx : Cxr w0 w L (⟨e, 1, v, k, xs⟩ :: R)) (ei : EI8 P e) (ht : P.underlying t = some (.slice e)) (hu : P.underlying u = some .string)
    (hg : o.guard = none) (hd : o.dst = some d) (ho : o.op = .call { callee := .builtin .append, args := #[x, y], argTypes := #[t, u] }) (hs : ev n f x = v) (hx : ev n f y = .string s) (hb : k + s.size ≤ 140737488355328)
    (h : ∀ v' w', Cxr w0 w' L (⟨e, 1, v', k + s.size, xs ++ strCells s⟩ :: R) → w.grownBy w' v.ownBlock → wpList P ops Q rest (St n (upd f d v')) w') : wpList P ops Q (o :: rest) (St n f) w := by
  have hrow0 := cx.rows _ (List.mem_cons_self ..)
  have hoff0 := cx.off _ (List.mem_cons_self ..)
  have hpw0 := (List.pairwise_cons.1 cx.pw).1
  simp only at hrow0 hoff0
  obtain ⟨v', w', hrun, hrow, hgr, hnew⟩ := run_append_newS (P := P) (ty := o.type) (s := s) ei ht hu hrow0 hb cx.ext.size
  have hcx0 : Cxr w0 w' L R := by
    refine ⟨cx.ext.grown hgr cx.ext.size (fun k hk => (hrow0.lt k hk).1), ?_, cx.lo, cx.nd, ?_, fun r hr => cx.off r (List.mem_cons_of_mem _ hr), (List.pairwise_cons.1 cx.pw).2⟩
    · intro p hp'
      rw [hgr.block p.1 (cx.lt p hp') (fun e => hoff0 p.1 e.symm (List.mem_map.2 ⟨p, hp', rfl⟩))]
      exact cx.own p hp'
    · intro r hr
      refine cx.row_keep (List.mem_cons_of_mem _ hr) hgr.os hgr.tape hgr.output hgr.size fun q hq hv => hgr.block q hq fun e => ?_
      exact hpw0 r hr q e.symm hv
  refine s_new (w' := w') (v := v') hg hd ?_ (h v' w' (hcx0.addRow _ hrow ?_ ?_) hgr)
  · unfold execOp; rw [ho]
    simp [resolve, invoke, builtin, hs, hx, hrun, Result.andThen]
  · intro q hq hm
    obtain ⟨p, hp', rfl⟩ := List.mem_map.1 hm
    rcases hnew _ hq with h2 | h2
    · exact hoff0 _ h2 (List.mem_map.2 ⟨p, hp', rfl⟩)
    · have := cx.lt p hp'; omega
  · intro r hr q hq hq'
    rcases hnew _ hq with h2 | h2
    · exact hpw0 r hr q h2 hq'
    · have := ((cx.rows r (List.mem_cons_of_mem _ hr)).lt _ hq').2; omega
theorem v_strAdd {t t' : TypeId} {x y : Operand} {s u : ByteArray} (ho : o.op = .binOp .add t x y t') (hx : ρ x = .string s) (hy : ρ y = .string u) (h : s.size + u.size ≤ 9223372036854775807) : (execOp ρ o).run P w = .ok (.value (.string (s ++ u))) w := by
  unfold execOp; rw [ho]
  have : ¬ (9223372036854775807 : Int) < (s.size : Int) + (u.size : Int) := by omega
  simp [hx, hy, eqGuard, binOp, Op.stringOp, this]
theorem v_strAddB {t t' : TypeId} {x y : Operand} {a b : List UInt8} (ho : o.op = .binOp .add t x y t') (hx : ρ x = .string (bs a)) (hy : ρ y = .string (bs b)) (h : a.length + b.length ≤ 9223372036854775807) : (execOp ρ o).run P w = .ok (.value (.string (bs (a ++ b)))) w := by
  rw [← bs_append]
  exact v_strAdd ho hx hy (by rw [bs_size, bs_size]; exact h)
theorem s_appendB {x y : Operand} {t u e : Nat} {v : Value} {k d : Nat} {xs : List Value} {l : List UInt8} (cx : Cxr w0 w L (⟨e, 1, v, k, xs⟩ :: R)) (ei : EI8 P e) (ht : P.underlying t = some (.slice e)) (hu : P.underlying u = some .string)
    (hg : o.guard = none) (hd : o.dst = some d) (ho : o.op = .call { callee := .builtin .append, args := #[x, y], argTypes := #[t, u] }) (hs : ev n f x = v) (hx : ev n f y = .string (bs l)) (hb : k + l.length ≤ 140737488355328)
    (h : ∀ v' w', Cxr w0 w' L (⟨e, 1, v', k + l.length, xs ++ l.map bv⟩ :: R) → w.grownBy w' v.ownBlock → wpList P ops Q rest (St n (upd f d v')) w') : wpList P ops Q (o :: rest) (St n f) w :=
  s_appendS cx ei ht hu hg hd ho hs hx (by rw [bs_size]; exact hb) fun v' w' cx' hgr => h v' w' (by rw [bs_size] at cx'; exact cx') hgr
theorem Cxr.row_eq {e sz n n' : Nat} {v : Value} {xs xs' : List Value} (h : Cxr w0 w L (⟨e, sz, v, n, xs⟩ :: R)) (hn : n = n') (hx : xs = xs') : Cxr w0 w L (⟨e, sz, v, n', xs'⟩ :: R) := by subst hn hx; exact h
theorem v_quo {t t' : TypeId} {x y : Operand} {p q : Nat} (ho : o.op = .binOp .quo t x y t') (hx : ρ x = .int .i64 p) (hy : ρ y = .int .i64 q) (hp : p ≤ 9223372036854775807) (hq : q ≠ 0) : (execOp ρ o).run P w = .ok (.value (.int .i64 ((p / q : Nat) : Int))) w := by
  unfold execOp; rw [ho]
  have h1 : ((p : Int).tdiv q) = ((p / q : Nat) : Int) := by rw [← Int.ofNat_tdiv]
  have h2 : p / q ≤ p := Nat.div_le_self _ _
  have h3 : IntKind.i64.wrap ((p : Int) / (q : Int)) = (p : Int) / (q : Int) := by
    rw [← Int.natCast_ediv]
    generalize p / q = z at h2
    exact IntWalk.i64_in _ (by omega)
  simp [hx, hy, eqGuard, binOp, Op.intDiv, hq, h1, h3]
theorem v_rem {t t' : TypeId} {x y : Operand} {p q : Nat} (ho : o.op = .binOp .rem t x y t') (hx : ρ x = .int .i64 p) (hy : ρ y = .int .i64 q) (hq : q ≠ 0) : (execOp ρ o).run P w = .ok (.value (.int .i64 ((p % q : Nat) : Int))) w := by
  unfold execOp; rw [ho]
  have h1 : ((p : Int).tmod q) = ((p % q : Nat) : Int) := by rw [← Int.ofNat_tmod]
  simp [hx, hy, eqGuard, binOp, Op.intDiv, hq, h1]
theorem v_preSl {t e : TypeId} {x y : Operand} {a : Option Addr} {len cap : Nat} {k : IntKind} {m : Int} (ho : o.op = .slice t x none (some y) none) (hx : ρ x = .slice a len cap) (hy : ρ y = .int k m) (hu : P.underlying t = some (.slice e)) {sz : Nat} (hs : (P.info? e).map (·.size) = some sz) (h0 : 0 ≤ m) (h1 : m ≤ cap) :
    (execOp ρ o).run P w = .ok (.value (.slice a m.toNat cap)) w := by
  unfold execOp; rw [ho]
  have ha : Option.map (fun x : Addr => x.add 0) a = a := by
    cases a with
    | none => rfl
    | some a => simp [Addr.add]
  simp [hx, hy, Instr.sliceAt, Instr.slice, Instr.sliceBounds, Instr.sliceBound, asIntOf, run_underlying hu, h0, h1, run_size (w := w) hs, ha]
theorem v_iaA {x ix : Operand} {t e : TypeId} {s b k len : Nat} {m : Int} {kd : IntKind} (hu : P.underlying t = some (.array len e)) (hs : (P.info? e).map (·.size) = some s) (ho : o.op = .indexAddr t x ix)
    (hx : ρ x = .pointer (some ⟨b, k, none⟩)) (hi : ρ ix = .int kd m) (h0 : 0 ≤ m) (h1 : m < len) :
    (execOp ρ o).run P w = .ok (.value (.pointer (some ⟨b, k + m.toNat * s, none⟩))) w := by
  unfold execOp
  rw [ho]
  simp [hx, hi, Instr.indexAt, Instr.sureAddr, run_underlying hu, asIntOf, h0, h1, run_size (w := w) hs, add_addr]
end
theorem toList_inj (a b : ByteArray) : a.toList = b.toList ↔ a = b := by
  have := bytes_eq a b
  by_cases h : a = b
  · simp [h]
  · simp only [h, decide_false, beq_eq_false_iff_ne] at this
    exact ⟨fun e => absurd e this, fun e => absurd e h⟩
section
variable {P : Program} {o : Oper} {w : World} {ρ : Operand → Value}
theorem v_agg {op : BinOp} {t t' : TypeId} {x y : Operand} {xs ys : Array Value} {r : Bool} (hg : P.eqGuardType P.depth t = false) (h : ∀ w, (binOp op t (.agg xs) (.agg ys)).run P w = .ok (.bool r) w) (ho : o.op = .binOp op t x y t')
    (hx : ρ x = .agg xs) (hy : ρ y = .agg ys) : (execOp ρ o).run P w = .ok (.value (.bool r)) w := by
  unfold execOp; rw [ho]
  simp [hx, hy, run_eqGuard_agg w op t x y xs ys hg, h w]
theorem v_build {t : TypeId} {ps : Array (Nat × Operand)} {qs : List (Nat × Value)} {v : Value} (h : ∀ w, (Instr.build t qs.toArray).run P w = .ok v w) (ho : o.op = .build t ps) (hq : ps.toList.map (fun p => (p.1, ρ p.2)) = qs) : (execOp ρ o).run P w = .ok (.value v) w := by
  unfold execOp; rw [ho]
  have e : ps.map (fun p => (p.1, ρ p.2)) = qs.toArray := by rw [← hq]; apply Array.ext'; simp
  simp [e, h w]
end
theorem RowAt.sub {w : World} {b o : Nat} {l : List Value} (k : Nat) {l' : List Value} (h : RowAt w b o l) (h' : (l.drop k).take l'.length = l') : RowAt w b (o + k) l' := by
  intro j y hj
  rw [Nat.add_assoc]
  refine h _ _ ?_
  rw [← h'] at hj
  rw [List.getElem?_take] at hj
  split at hj
  · rwa [List.getElem?_drop] at hj
  · cases hj
theorem tup_sz {r : Int} {z m : Nat} {x y : Value} (h : z = m) (hx : x = .int .i64 r) (hy : y = .int .i64 m) : Value.tuple #[x, y] = .tuple #[.int .i64 r, .int .i64 z] := by subst h hx hy; rfl
theorem tup_s {a b : ByteArray} {m k : Int} {x y : Value} (h : a = b) (h2 : m = k) (hx : x = .string a) (hy : y = .int .i64 m) : Value.tuple #[x, y] = .tuple #[.string b, .int .i64 k] := by subst h h2 hx hy; rfl
theorem tup_b {b c : Bool} {x y : Value} (h : b = c) (hy : y = .bool b) : Value.tuple #[x, y] = .tuple #[x, .bool c] := by subst h hy; rfl
theorem tup_i {r m k : Int} {x y : Value} (h : m = k) (hx : x = .int .i64 r) (hy : y = .int .i64 m) : Value.tuple #[x, y] = .tuple #[.int .i64 r, .int .i64 k] := by subst h hx hy; rfl
theorem Ctx.sub0 {w0 w : World} {L : List (Nat × Obj)} {R : List Row} (h : Cxr w0 w L R) : Ctx w0 w [] := ⟨h.ext, by simp, by simp, by simp, by simp, by simp, by simp⟩
end Go.Dk
end
section
set_option linter.unusedVariables false
namespace Go.Dk
open Go Go.RowKit
section
variable {P : Program} {ops : Array Oper} {Q : Act → Prop} {rest : List Oper} {o : Oper} {n : Nat} {f : Nat → Value} {w w0 : World} {L : List (Nat × Obj)} {R : List Row}
theorem t_val {v : Value} {d : Nat} (hg : o.guard = none) (hd : o.dst = some d) (hv : (execOp (ev n f) o).run P w = .ok (.value v) w) (h : wpStill P ops w Q rest (St n (upd f d v))) : wpStill P ops w Q (o :: rest) (St n f) := by
  unfold wpStill
  rw [if_pos (by simp [Region.wanted, hg])]
  unfold Oper.still
  rw [eval_St, hv, Oper.stillUpon_value, hd, put_St]
  exact h
theorem t_gval {v : Value} {j d dj : Nat} {pol c : Bool} (hg : o.guard = some (j, pol)) (hd : o.dst = some d) (hj : (ops[j]?).bind (·.dst) = some dj) (hc : WantB (ev n f (.tmp dj)) pol c)
    (hv : c = true → (execOp (ev n f) o).run P w = .ok (.value v) w) (h : wpStill P ops w Q rest (St n (upd f d (gv c v)))) : wpStill P ops w Q (o :: rest) (St n f) := by
  have hw := wanted_St (o := o) (ops := ops) hg hj hc
  unfold wpStill
  rw [hw]
  cases c with
  | true =>
    rw [if_pos rfl]
    unfold Oper.still
    rw [eval_St, hv rfl, Oper.stillUpon_value, hd, put_St]
    unfold gv at h
    exact h
  | false =>
    rw [if_neg (by simp), hd, put_St]
    unfold gv at h
    exact h
theorem t_nil (h : Q (St n f)) : wpStill P ops w Q [] (St n f) := h
theorem w_still {id : Nat} {Q : Exit → Act → World → Prop} {l : List Oper} (cx : Cxr w0 w L R) (hm : P.follows .mixedOrders = true) (hB : Region.lexB .any l.toArray = true)
    (h : ∀ w', Cxr w0 w' L R → Below w.heap.size w w' → wpStill P l.toArray w' (fun a' => Q .normal a' w') l (St n f)) : (Code.region id l.toArray true).wp P Q (St n f) w :=
  wp_region_still_lit hm hB (h w.drew cx.draw ⟨rfl, rfl, rfl, Nat.le_refl _, fun _ _ => rfl⟩)
end
def Cq (w0 w : World) (L : List (Nat × Obj)) (R : List Row) (w' : World) : Prop := Cxr w0 w' L R ∧ Below w.heap.size w w'
section
variable {P : Program} {ops : Array Oper} {Q : Exit → Act → World → Prop} {K : Act → Prop} {rest : List Oper} {o : Oper} {n : Nat} {f : Nat → Value} {w w0 : World} {L : List (Nat × Obj)} {R : List Row}
theorem w_quiet {id : Nat} {l : List Oper} (cx : Cxr w0 w L R) (hm : P.follows .mixedOrders = true) (hB : Region.lexB .any l.toArray = true)
    (h : wpQuiet P l.toArray (Cq w0 w L R) (fun a' => ∀ w', Cq w0 w L R w' → Q .normal a' w') l (St n f)) : (Code.region id l.toArray true).wp P Q (St n f) w :=
  wp_region_quiet (C := Cq w0 w L R) hm hB ⟨cx.draw, ⟨rfl, rfl, rfl, Nat.le_refl _, fun _ _ => rfl⟩⟩ (by simpa using h)
theorem q_val {v : Value} {d : Nat} (hg : o.guard = none) (hd : o.dst = some d) (hv : ∀ w', Cxr w0 w' L R → Below w.heap.size w w' → (execOp (ev n f) o).run P w' = .ok (.value v) w')
    (h : wpQuiet P ops (Cq w0 w L R) K rest (St n (upd f d v))) : wpQuiet P ops (Cq w0 w L R) K (o :: rest) (St n f) := by
  refine wpQuiet_step fun K' hK => ?_
  have hw : Region.wanted o (yielded ops (St n f).tmps) = true := by simp [Region.wanted, hg]
  rw [hw]
  refine ⟨v, fun w' hc => ?_, hK _ (by rw [hd, put_St]; exact h)⟩
  unfold Oper.quietAt
  rw [eval_St, hv w' hc.1 hc.2]
  exact ⟨rfl, rfl⟩
theorem q_gval {v : Value} {j d dj : Nat} {pol c : Bool} (hg : o.guard = some (j, pol)) (hd : o.dst = some d) (hj : (ops[j]?).bind (·.dst) = some dj) (hc : WantB (ev n f (.tmp dj)) pol c)
    (hv : c = true → ∀ w', Cxr w0 w' L R → Below w.heap.size w w' → (execOp (ev n f) o).run P w' = .ok (.value v) w') (h : wpQuiet P ops (Cq w0 w L R) K rest (St n (upd f d (gv c v)))) : wpQuiet P ops (Cq w0 w L R) K (o :: rest) (St n f) := by
  have hw := wanted_St (o := o) (ops := ops) hg hj hc
  refine wpQuiet_step fun K' hK => ?_
  rw [hw]
  cases c with
  | true =>
    simp only [if_true]
    refine ⟨v, fun w' hc => ?_, hK _ (by rw [hd, put_St]; unfold gv at h; exact h)⟩
    unfold Oper.quietAt
    rw [eval_St, hv rfl w' hc.1 hc.2]
    exact ⟨rfl, rfl⟩
  | false =>
    simp only [Bool.false_eq_true, if_false]
    refine hK _ ?_
    rw [hd, put_St]
    unfold gv at h
    exact h
theorem q_nil (h : K (St n f)) : wpQuiet P ops (Cq w0 w L R) K [] (St n f) := h
def Runs (P : Program) (ρ : Operand → Value) (o : Oper) (k : Nat) (args : List Value) : Prop := ∀ w, (execOp ρ o).run P w = .ok (.enter k args.toArray) w
theorem runs_fn {k : Nat} {opd : Array Operand} {ats : Array TypeId} {fn : Func} {args : List Value} (hf : P.funcs[k]? = some fn) (hb : fn.body.isNone = false) (hn : (fn.name == "runtime.NumGoroutine") = false)
    (ho : o.op = .call { callee := .value (.func k), args := opd, argTypes := ats }) (hargs : opd.toList.map (ev n f) = args) : Runs P (ev n f) o k args := fun w => run_callOp hf hb hn ho hargs
theorem runs_fnv {k : Nat} {x : Operand} {opd : Array Operand} {ats : Array TypeId} {fn : Func} {args cap : List Value} (hf : P.funcs[k]? = some fn) (hb : fn.body.isNone = false) (hn : (fn.name == "runtime.NumGoroutine") = false)
    (ho : o.op = .call { callee := .value x, args := opd, argTypes := ats }) (hx : ev n f x = .func (.func k) #[] cap.toArray) (hargs : opd.toList.map (ev n f) = args) : Runs P (ev n f) o k (args ++ cap) := fun w => by
  have h1 : fn.name ≠ "runtime.NumGoroutine" := by simpa using hn
  have h2 : ¬ fn.body = none := by intro e; simp [e] at hb
  unfold execOp; rw [ho]
  have e : opd.map (ev n f) = args.toArray := by rw [← hargs]; apply Array.ext'; simp
  simp [resolve, e, hx, Deferred.ofValue, invoke, callFunc, hf, h1, h2]
theorem runs_fnv0 {k : Nat} {x : Operand} {opd : Array Operand} {ats : Array TypeId} {fn : Func} {args : List Value} (hf : P.funcs[k]? = some fn) (hb : fn.body.isNone = false) (hn : (fn.name == "runtime.NumGoroutine") = false)
    (ho : o.op = .call { callee := .value x, args := opd, argTypes := ats }) (hx : ev n f x = .func (.func k) #[] #[]) (hargs : opd.toList.map (ev n f) = args) : Runs P (ev n f) o k args := by
  have := runs_fnv (cap := []) hf hb hn ho hx hargs
  rwa [List.append_nil] at this
theorem q_call {d k : Nat} {args : List Value} {v : Value} (hg : o.guard = none) (hd : o.dst = some d) (hr : Runs P (ev n f) o k args) (hc : ∀ w', Cxr w0 w' L R → Below w.heap.size w w' → Fc P k args w' (fun u _ => u = v))
    (h : wpQuiet P ops (Cq w0 w L R) K rest (St n (upd f d v))) : wpQuiet P ops (Cq w0 w L R) K (o :: rest) (St n f) := by
  refine wpQuiet_step fun K' hK => ?_
  have hw : Region.wanted o (yielded ops (St n f).tmps) = true := by simp [Region.wanted, hg]
  rw [hw]
  refine ⟨v, fun w' hcx => ?_, hK _ (by rw [hd, put_St]; exact h)⟩
  unfold Oper.quietAt
  rw [eval_St, hr w']
  refine ⟨rfl, Calls.mono (hc w' hcx.1 hcx.2) ?_⟩
  rintro e w'' ⟨u, rfl, hb, rfl⟩
  exact ⟨rfl, hcx.1.call hb, hcx.2.trans (hb.mono hcx.2.size)⟩
theorem q_gcall {d j dj k : Nat} {pol c : Bool} {args : List Value} {v : Value} (hg : o.guard = some (j, pol)) (hd : o.dst = some d) (hj : (ops[j]?).bind (·.dst) = some dj) (hw : WantB (ev n f (.tmp dj)) pol c) (hr : c = true → Runs P (ev n f) o k args)
    (hc : c = true → ∀ w', Cxr w0 w' L R → Below w.heap.size w w' → Fc P k args w' (fun u _ => u = v))
    (h : wpQuiet P ops (Cq w0 w L R) K rest (St n (upd f d (gv c v)))) : wpQuiet P ops (Cq w0 w L R) K (o :: rest) (St n f) := by
  have hw := wanted_St (o := o) (ops := ops) hg hj hw
  refine wpQuiet_step fun K' hK => ?_
  rw [hw]
  cases c with
  | true =>
    simp only [if_true]
    refine ⟨v, fun w' hcx => ?_, hK _ (by rw [hd, put_St]; unfold gv at h; exact h)⟩
    unfold Oper.quietAt
    rw [eval_St, hr rfl w']
    refine ⟨rfl, Calls.mono (hc rfl w' hcx.1 hcx.2) ?_⟩
    rintro e w'' ⟨u, rfl, hb, rfl⟩
    exact ⟨rfl, hcx.1.call hb, hcx.2.trans (hb.mono hcx.2.size)⟩
  | false =>
    simp only [Bool.false_eq_true, if_false]
    refine hK _ ?_
    rw [hd, put_St]
    unfold gv at h
    exact h
end
theorem strOf_list : ∀ (l : List UInt8) (r : ByteArray), (l.map fun x : UInt8 => (x.toNat : Int)).foldl (fun r n => r.push (UInt8.ofNat n.toNat)) r = r ++ bs l
  | [], r => by
    apply ByteArray.ext
    simp [bs, ByteArray.data_append]
  | x :: l, r => by
    simp only [List.map_cons, List.foldl_cons]
    rw [strOf_list l]
    apply ByteArray.ext
    simp [bs, ByteArray.data_append, ByteArray.push]
theorem strOf_bs (l : List UInt8) : strOf (l.map fun x : UInt8 => (x.toNat : Int)) = bs l := by
  unfold strOf
  rw [strOf_list]
  apply ByteArray.ext
  simp [bs]
theorem Cxr.bytes {w0 w : World} {L : List (Nat × Obj)} {R : List Row} {v : Value} {n : Nat} {xs : List Value} {l : List UInt8} (h : Cxr w0 w L (⟨5, 1, v, n, xs⟩ :: R)) (hn : n = l.length) (hx : xs = l.map bv) (h0 : 0 < n) : ∃ g c, v = .slice (some ⟨g, 0, none⟩) n c ∧ RowAt w g 0 (l.map bv) := by
  subst hx
  have hrow := h.rows _ (List.mem_cons_self ..)
  simp only at hrow
  rcases hrow.2 with ⟨_, h2⟩ | ⟨g, cap, cur, rfl, hb, hg, hnc, hcm, hcs, htake⟩
  · exfalso
    have := hrow.1
    rw [h2] at this
    simp at this
    omega
  · refine ⟨g, cap, rfl, fun j x hj => ?_⟩
    have := hrow.cells (g := g) rfl j x hj
    rwa [add_addr] at this
theorem row_next {w0 w : World} {L : List (Nat × Obj)} {R : List Row} {v : Value} {n : Nat} {xs : List Value} {a : UInt8} {q q' sg : List UInt8} (cx : Cxr w0 w L (⟨5, 1, v, n, xs⟩ :: R)) (hq : q' = q ++ sg) (hn : n = 1 + q.length + sg.length) (hx : xs = (a :: q).map bv ++ sg.map bv) :
    Cxr w0 w L (⟨5, 1, v, 1 + q'.length, (a :: q').map bv⟩ :: R) := by
  subst hq
  refine cx.row_eq (by rw [hn, List.length_append]; omega) (by rw [hx]; simp)
theorem row_more {w0 w : World} {L : List (Nat × Obj)} {R : List Row} {v : Value} {n : Nat} {xs : List Value} {q q' sg : List UInt8} (cx : Cxr w0 w L (⟨5, 1, v, n, xs⟩ :: R)) (hq : q' = q ++ sg) (hn : n = q.length + sg.length) (hx : xs = q.map bv ++ sg.map bv) :
    Cxr w0 w L (⟨5, 1, v, q'.length, q'.map bv⟩ :: R) := by
  subst hq
  refine cx.row_eq (by rw [hn, List.length_append]) (by rw [hx]; simp)
end Go.Dk
end
section
set_option linter.unusedVariables false
namespace Go.Dk
open Go Go.RowKit Go.Lib
/-! ### slices and paths in memory -/
def SliceAt (A : Nat → Prop) (s : Value) (n b o : Nat) : Prop := (n = 0 ∧ s = .slice none 0 0) ∨ ∃ ad cap, s = .slice (some ad) n cap ∧ n ≤ cap ∧ (0 < n → ad = ⟨b, o, none⟩ ∧ A b)
theorem SliceAt.inA {A : Nat → Prop} {s : Value} {n b o : Nat} (h : SliceAt A s n b o) (hn : 0 < n) : A b := by
  rcases h with ⟨h0, _⟩ | ⟨_, _, _, _, h⟩
  · omega
  · exact (h hn).2
theorem SliceAt.mono {A A' : Nat → Prop} {s : Value} {n b o : Nat} (h : SliceAt A s n b o) (hA : ∀ b, A b → A' b) : SliceAt A' s n b o := by
  rcases h with h | ⟨ad, cap, h1, h2, h3⟩
  · exact .inl h
  · exact .inr ⟨ad, cap, h1, h2, fun hn => ⟨(h3 hn).1, hA _ (h3 hn).2⟩⟩
theorem SliceAt.form {A : Nat → Prop} {s : Value} {n b o : Nat} (h : SliceAt A s n b o) : ∃ a c, s = .slice a n c ∧ (0 < n → a = some ⟨b, o, none⟩) := by
  rcases h with ⟨rfl, rfl⟩ | ⟨ad, cap, rfl, _, h⟩
  · exact ⟨none, 0, rfl, fun h => by omega⟩
  · exact ⟨some ad, cap, rfl, fun hn => by rw [(h hn).1]⟩
theorem RowAt.up {w w' : World} {b o : Nat} {l : List Value} (h : RowAt w b o l) (hb : Below w.heap.size w w') : RowAt w' b o l := fun j x hj => by
  have h1 := h j x hj
  have h2 := block_lt_of_cell h1
  have h3 := hb.block b (by simpa using h2)
  have h4 : w'.cell? ⟨b, o + j, none⟩ = w.cell? ⟨b, o + j, none⟩ := by simp [World.cell?, h3]
  rw [h4]; exact h1
structure Stp where
  byIndex : Bool
  key : ByteArray
  index : Int
def srow (s : Stp) : List Value := [.bool s.byIndex, .string s.key, .int .i64 s.index]
def Pth (w : World) (s : Value) (l : List Stp) : Prop := ∃ b o, SliceAt (fun b => b < w.heap.size) s l.length b o ∧ ∀ i x, l[i]? = some x → RowAt w b (o + i * 3) (srow x)
theorem Pth.up {w w' : World} (h : Below w.heap.size w w') {s : Value} {l : List Stp} (hp : Pth w s l) : Pth w' s l := by
  obtain ⟨b, o, hs, hr⟩ := hp
  exact ⟨b, o, hs.mono fun _ hb => Nat.lt_of_lt_of_le hb h.size, fun i x hx => (hr i x hx).up h⟩
theorem Pth.form {w : World} {s : Value} {l : List Stp} (h : Pth w s l) : ∃ a c b o, s = .slice a l.length c ∧ (0 < l.length → a = some ⟨b, o, none⟩) ∧ ∀ i x, l[i]? = some x → RowAt w b (o + i * 3) (srow x) := by
  obtain ⟨b, o, hs, hr⟩ := h
  obtain ⟨a, c, rfl, ha⟩ := hs.form
  exact ⟨a, c, b, o, rfl, ha, hr⟩
theorem Pth.sl {w : World} {s : Value} {l : List Stp} (h : Pth w s l) : ∃ a c, s = .slice a l.length c ∧ l.length ≤ c := by
  obtain ⟨b, o, hs, hr⟩ := h
  rcases hs with ⟨h0, h1⟩ | ⟨ad, cap, h1, h2, h3⟩
  · exact ⟨none, 0, by rw [h1, h0], by omega⟩
  · exact ⟨some ad, cap, h1, h2⟩
theorem Pth.take {w : World} {a : Option Addr} {c n k : Nat} {l : List Stp} (h : Pth w (.slice a n c) l) (hk : k ≤ l.length) : Pth w (.slice a k c) (l.take k) := by
  obtain ⟨b, o, hs, hr⟩ := h
  refine ⟨b, o, ?_, fun i x hx => hr i x ?_⟩
  · have e : (l.take k).length = k := by simp; omega
    rw [e]
    rcases hs with ⟨h0, h1⟩ | ⟨ad, cap, h1, h2, h3⟩
    · cases h1
      have : k = 0 := by omega
      subst this
      exact .inl ⟨rfl, rfl⟩
    · cases h1
      exact .inr ⟨ad, c, rfl, by omega, fun hn => h3 (by omega)⟩
  · rw [List.getElem?_take] at hx
    split at hx
    · exact hx
    · cases hx
structure Lss where
  kind : Int
  path : List Stp
def Lsr (w : World) (s : Value) (l : List Lss) : Prop := ∃ b o, SliceAt (fun b => b < w.heap.size) s l.length b o ∧ ∀ i x, l[i]? = some x → ∃ p, RowAt w b (o + i * 2) [.int .i64 x.kind, p] ∧ Pth w p x.path
theorem Lsr.up {w w' : World} (h : Below w.heap.size w w') {s : Value} {l : List Lss} (hp : Lsr w s l) : Lsr w' s l := by
  obtain ⟨b, o, hs, hr⟩ := hp
  refine ⟨b, o, hs.mono fun _ hb => Nat.lt_of_lt_of_le hb h.size, fun i x hx => ?_⟩
  obtain ⟨p, h1, h2⟩ := hr i x hx
  exact ⟨p, h1.up h, h2.up h⟩
theorem Lsr.form {w : World} {s : Value} {l : List Lss} (h : Lsr w s l) : ∃ a c b o, s = .slice a l.length c ∧ (0 < l.length → a = some ⟨b, o, none⟩) ∧ ∀ i x, l[i]? = some x → ∃ p, RowAt w b (o + i * 2) [.int .i64 x.kind, p] ∧ Pth w p x.path := by
  obtain ⟨b, o, hs, hr⟩ := h
  obtain ⟨a, c, rfl, ha⟩ := hs.form
  exact ⟨a, c, b, o, rfl, ha, hr⟩
/-! ### texts -/
def hexd (n : Nat) : UInt8 := if n < 10 then UInt8.ofNat (48 + n) else UInt8.ofNat (87 + n)
def hexs (n : Nat) : List UInt8 := if n < 16 then [hexd n] else [hexd (n / 16), hexd (n % 16)]
def sgn (b : UInt8) : List UInt8 :=
  if b = 34 ∨ b = 92 then [92, b] else if b = 10 then [92, 110] else if b = 9 then [92, 116] else if b = 13 then [92, 114]
  else if b < 32 ∨ b = 127 then [92, 117, 123] ++ hexs b.toNat ++ [125] else [b]
theorem sgn_len (b : UInt8) : (sgn b).length ≤ 6 := by
  unfold sgn hexs
  split
  · simp
  · split
    · simp
    · split
      · simp
      · split
        · simp
        · split
          · split <;> simp
          · simp
theorem u8eq (c : UInt8) (n : Nat) (h : n < 256) : c = UInt8.ofNat n ↔ c.toNat = n := by
  constructor
  · rintro rfl; exact u8t h
  · rintro rfl; exact UInt8.ofNat_toNat.symm
theorem sgn_a {c : UInt8} (h : c.toNat = 34 ∨ c.toNat = 92) : sgn c = [92, c] := by
  have : c = 34 ∨ c = 92 := h.imp (u8eq c 34 (by decide)).2 (u8eq c 92 (by decide)).2
  unfold sgn; rw [if_pos this]
theorem sgn_ne {c : UInt8} {n : Nat} (hn : n < 256) (h : c.toNat ≠ n) : c ≠ UInt8.ofNat n := fun e => h ((u8eq c n hn).1 e)
theorem sgn_10 {c : UInt8} (h : c.toNat = 10) : sgn c = [92, 110] := by
  have : c = 10 := (u8eq c 10 (by decide)).2 h
  subst this; decide
theorem sgn_9 {c : UInt8} (h : c.toNat = 9) : sgn c = [92, 116] := by
  have : c = 9 := (u8eq c 9 (by decide)).2 h
  subst this; decide
theorem sgn_13 {c : UInt8} (h : c.toNat = 13) : sgn c = [92, 114] := by
  have : c = 13 := (u8eq c 13 (by decide)).2 h
  subst this; decide
theorem sgn_u {c : UInt8} (h1 : c.toNat ≠ 10) (h2 : c.toNat ≠ 9) (h3 : c.toNat ≠ 13) (h : c.toNat < 32 ∨ c.toNat = 127) : sgn c = [92, 117, 123] ++ hexs c.toNat ++ [125] := by
  have e1 : ¬ (c = 34 ∨ c = 92) := by rintro (e | e) <;> (subst e; revert h; decide)
  have e5 : c < 32 ∨ c = 127 := by
    rcases h with h | h
    · exact .inl (by rw [UInt8.lt_iff_toNat_lt]; exact h)
    · exact .inr ((u8eq c 127 (by decide)).2 h)
  unfold sgn
  rw [if_neg e1, if_neg (show c ≠ 10 from sgn_ne (n := 10) (by decide) h1), if_neg (show c ≠ 9 from sgn_ne (n := 9) (by decide) h2), if_neg (show c ≠ 13 from sgn_ne (n := 13) (by decide) h3), if_pos e5]
theorem sgn_o {c : UInt8} (h0 : ¬ (c.toNat = 34 ∨ c.toNat = 92)) (h : ¬ (c.toNat < 32 ∨ c.toNat = 127)) : sgn c = [c] := by
  have e1 : ¬ (c = 34 ∨ c = 92) := fun e => h0 (e.imp (u8eq c 34 (by decide)).1 (u8eq c 92 (by decide)).1)
  have e5 : ¬ (c < 32 ∨ c = 127) := fun e => h (e.imp (fun e => by rw [UInt8.lt_iff_toNat_lt] at e; exact e) (u8eq c 127 (by decide)).1)
  have n1 : c.toNat ≠ 10 := by omega
  have n2 : c.toNat ≠ 9 := by omega
  have n3 : c.toNat ≠ 13 := by omega
  unfold sgn
  rw [if_neg e1, if_neg (show c ≠ 10 from sgn_ne (n := 10) (by decide) n1), if_neg (show c ≠ 9 from sgn_ne (n := 9) (by decide) n2), if_neg (show c ≠ 13 from sgn_ne (n := 13) (by decide) n3), if_neg e5]
theorem hexs_len (n : Nat) : (hexs n).length ≤ 2 := by unfold hexs; split <;> simp
def lowc (c : Int) : Prop := (97 ≤ c ∧ c ≤ 122) ∨ (65 ≤ c ∧ c ≤ 90) ∨ c = 95
def digc (c : Int) : Prop := 48 ≤ c ∧ c ≤ 57
def isNm (s : ByteArray) : Prop := 0 < s.size ∧ ∀ j : Nat, j < s.size → lowc (byteAt s j) ∨ (0 < j ∧ digc (byteAt s j))
theorem isNm_iff (s : ByteArray) : isNm s ↔ (∀ j : Nat, j < s.size → lowc (byteAt s j) ∨ digc (byteAt s j)) ∧ 0 < s.size ∧ ¬ digc (byteAt s (0 : Nat)) := by
  constructor
  · rintro ⟨h0, h⟩
    refine ⟨fun j hj => (h j hj).imp id (·.2), h0, fun hd => ?_⟩
    rcases h 0 h0 with h1 | h1
    · unfold lowc at h1; unfold digc at hd; omega
    · omega
  · rintro ⟨h, h0, hn⟩
    refine ⟨h0, fun j hj => ?_⟩
    rcases h j hj with h1 | h1
    · exact .inl h1
    · rcases Nat.eq_zero_or_pos j with h2 | h2
      · subst h2; exact absurd h1 hn
      · exact .inr ⟨h2, h1⟩
def qtd (l : List UInt8) : List UInt8 := l.flatMap sgn
theorem qtd_len (l : List UInt8) : (qtd l).length ≤ 6 * l.length := by
  induction l with
  | nil => simp [qtd]
  | cons b l ih =>
    have := sgn_len b
    simp only [qtd, List.flatMap_cons, List.length_append, List.length_cons] at ih ⊢
    omega
theorem qtd_take (s : ByteArray) (i : Nat) (hi : i < s.size) : qtd (s.data.toList.take (i + 1)) = qtd (s.data.toList.take i) ++ sgn (s.data.toList.getD i 0) := by
  have hi' : i < s.data.toList.length := by simpa using hi
  rw [List.take_succ_eq_append_getElem hi']
  simp [qtd, List.getD, List.getElem?_eq_getElem hi']
open Classical in
noncomputable def stpT (s : Stp) : List UInt8 := if s.byIndex then [91] ++ itoa s.index ++ [93] else if isNm s.key then 46 :: s.key.data.toList else [46, 34] ++ qtd s.key.data.toList ++ [34]
noncomputable def pathT (l : List Stp) : List UInt8 := match l with
  | [] => [46]
  | s :: _ => (if s.byIndex then [46] else []) ++ l.flatMap stpT
def GdS (s : Stp) : Prop := (s.byIndex = true → 0 ≤ s.index ∧ s.index ≤ 65536) ∧ (s.byIndex = false → s.key.size ≤ 1024)
theorem decDigits_len : ∀ (k n : Nat), n < 10 ^ (k + 1) → (decDigits n).length ≤ k + 1
  | 0, n, h => by unfold decDigits; rw [dif_pos (by omega)]; simp
  | k + 1, n, h => by
    unfold decDigits
    split
    · simp
    · have := decDigits_len k (n / 10) (by rw [Nat.pow_succ] at h; omega)
      simp only [List.length_append, List.length_singleton]
      omega
theorem itoa_nat (n : Nat) : itoa (n : Int) = decDigits n := by
  unfold itoa
  rw [if_neg (by omega)]
  simp
theorem stepT_len {s : Stp} (h : GdS s) : (stpT s).length ≤ 6200 := by
  unfold stpT
  split
  · rename_i hi
    obtain ⟨h1, h2⟩ := h.1 hi
    have h3 : s.index = ((s.index.toNat : Nat) : Int) := by omega
    rw [h3, itoa_nat]
    have := decDigits_len 5 s.index.toNat (by omega)
    simp only [List.length_append, List.length_singleton]
    omega
  · rename_i hi
    have h1 := h.2 (by simpa using hi)
    split
    · simp only [List.length_cons, Array.length_toList]
      have : s.key.data.size = s.key.size := rfl
      omega
    · have h2 := qtd_len s.key.data.toList
      have : s.key.data.size = s.key.size := rfl
      simp only [List.length_append, List.length_cons, List.length_nil, Array.length_toList] at h2 ⊢
      omega
theorem flat_len {l : List Stp} (h : ∀ s ∈ l, GdS s) : (l.flatMap stpT).length ≤ 6200 * l.length := by
  induction l with
  | nil => simp
  | cons s l ih =>
    have h1 := stepT_len (h s (by simp))
    have h2 := ih fun x hx => h x (by simp [hx])
    simp only [List.flatMap_cons, List.length_append, List.length_cons]
    omega
theorem pathT_len {l : List Stp} (h : ∀ s ∈ l, GdS s) : (pathT l).length ≤ 6200 * l.length + 1 := by
  unfold pathT
  split
  · simp
  · rename_i s t
    have := flat_len h
    simp only [List.length_append]
    split <;> simp only [List.length_cons, List.length_nil] at this ⊢ <;> omega
theorem flat_take (l : List Stp) (i : Nat) (x : Stp) (hx : l[i]? = some x) : (l.take (i + 1)).flatMap stpT = (l.take i).flatMap stpT ++ stpT x := by
  obtain ⟨hi, e⟩ := List.getElem?_eq_some_iff.1 hx
  rw [List.take_succ_eq_append_getElem hi]
  simp [e]
def wrds : List (List UInt8) := [[63], [99, 111, 109, 109, 101, 110, 116], [116, 105, 109, 101], [98, 121, 116, 101, 115], [110, 117, 108, 108], [110, 101, 115, 116], [115, 104, 97, 112, 101], [110, 117, 109, 98, 101, 114], [97, 108, 105, 97, 115]]
def knd (k : Int) : Nat := if k < 0 ∨ 8 < k then 0 else k.toNat
theorem knd_lt (k : Int) : knd k < 9 := by unfold knd; split <;> omega
theorem wrds_len : ∀ i : Nat, i < 9 → (wrds.getD i []).length ≤ 7 := by decide
noncomputable def lossT (x : Lss) : List UInt8 := pathT x.path ++ [32] ++ wrds.getD (knd x.kind) [] ++ [10]
noncomputable def repT (l : List Lss) : List UInt8 := l.flatMap lossT
def GdL (x : Lss) : Prop := x.path.length ≤ 48 ∧ ∀ s ∈ x.path, GdS s
theorem lossT_len {x : Lss} (h : GdL x) : (lossT x).length ≤ 300000 := by
  have h1 := pathT_len h.2
  have h2 := wrds_len _ (knd_lt x.kind)
  have h3 := h.1
  unfold lossT
  simp only [List.length_append, List.length_singleton]
  omega
theorem rep_len {l : List Lss} (h : ∀ x ∈ l, GdL x) : (repT l).length ≤ 300000 * l.length := by
  induction l with
  | nil => simp [repT]
  | cons s l ih =>
    have h1 := lossT_len (h s (by simp))
    have h2 := ih fun x hx => h x (by simp [hx])
    simp only [repT, List.flatMap_cons, List.length_append, List.length_cons] at h2 ⊢
    omega
theorem rep_take (l : List Lss) (i : Nat) (x : Lss) (hx : l[i]? = some x) : repT (l.take (i + 1)) = repT (l.take i) ++ lossT x := by
  obtain ⟨hi, e⟩ := List.getElem?_eq_some_iff.1 hx
  rw [List.take_succ_eq_append_getElem hi]
  simp [repT, e]
def dgs (n : Nat) : List UInt8 := if n = 0 then [] else decDigits n
theorem dgs_pos (n : Nat) (h : 0 < n) : dgs n = dgs (n / 10) ++ [UInt8.ofNat (48 + n % 10)] := by
  unfold dgs
  rw [if_neg (by omega)]
  by_cases h1 : n < 10
  · have e : n / 10 = 0 := by omega
    rw [e, if_pos rfl]
    unfold decDigits
    rw [dif_pos h1, show n % 10 = n by omega]
    rfl
  · rw [if_neg (by omega)]
    conv => lhs; unfold decDigits
    rw [dif_neg h1]
end Go.Dk
end
section
set_option linter.unusedVariables false
set_option linter.unusedSimpArgs false
namespace Go.Dk
open Go Go.RowKit Go.Lib
set_option maxRecDepth 100000 in
theorem sgn_preF : ∀ a b : Fin 256, (sgn (UInt8.ofNat a.val)).isPrefixOf (sgn (UInt8.ofNat b.val)) = true → a = b := by decide +kernel
theorem sgn_pre (a b : UInt8) (h : (sgn a).isPrefixOf (sgn b) = true) : a = b := by
  have h1 := sgn_preF ⟨a.toNat, a.toNat_lt⟩ ⟨b.toNat, b.toNat_lt⟩
  simp only [UInt8.ofNat_toNat] at h1
  have h2 := h1 h
  simp only [Fin.mk.injEq] at h2
  exact UInt8.toNat_inj.1 h2
theorem sgn_headF : ∀ a : Fin 256, (sgn (UInt8.ofNat a.val)).head? ≠ some 34 ∧ sgn (UInt8.ofNat a.val) ≠ [] := by decide +kernel
theorem sgn_head (a : UInt8) : (sgn a).head? ≠ some 34 ∧ sgn a ≠ [] := by
  have h1 := sgn_headF ⟨a.toNat, a.toNat_lt⟩
  simpa only [UInt8.ofNat_toNat] using h1
theorem sgn_cancel {a b : UInt8} {x y : List UInt8} (h : sgn a ++ x = sgn b ++ y) : a = b ∧ x = y := by
  have hab : a = b := by
    have p1 : sgn a <+: sgn a ++ x := ⟨x, rfl⟩
    have p2 : sgn b <+: sgn a ++ x := ⟨y, h.symm⟩
    rcases Nat.le_total (sgn a).length (sgn b).length with hl | hl
    · exact sgn_pre a b (List.isPrefixOf_iff_prefix.2 (List.prefix_of_prefix_length_le p1 p2 hl))
    · exact (sgn_pre b a (List.isPrefixOf_iff_prefix.2 (List.prefix_of_prefix_length_le p2 p1 hl))).symm
  subst hab
  exact ⟨rfl, List.append_cancel_left h⟩
theorem sgn_quote (a : UInt8) (x y : List UInt8) : sgn a ++ x ≠ 34 :: y := by
  intro h
  obtain ⟨h1, h2⟩ := sgn_head a
  cases hs : sgn a with
  | nil => exact h2 hs
  | cons c t =>
    rw [hs] at h h1
    simp only [List.cons_append, List.cons.injEq] at h
    exact h1 (by simp [h.1])
theorem qtd_cancel : ∀ (k l : List UInt8) (x y : List UInt8), qtd k ++ 34 :: x = qtd l ++ 34 :: y → k = l ∧ x = y
  | [], [], x, y, h => by simpa [qtd] using h
  | [], b :: l, x, y, h => by
    simp only [qtd, List.flatMap_nil, List.nil_append, List.flatMap_cons, List.append_assoc] at h
    exact absurd h.symm (sgn_quote b _ _)
  | a :: k, [], x, y, h => by
    simp only [qtd, List.flatMap_nil, List.nil_append, List.flatMap_cons, List.append_assoc] at h
    exact absurd h (sgn_quote a _ _)
  | a :: k, b :: l, x, y, h => by
    simp only [qtd, List.flatMap_cons, List.append_assoc] at h
    obtain ⟨rfl, h2⟩ := sgn_cancel h
    obtain ⟨rfl, rfl⟩ := qtd_cancel k l x y (by simpa only [qtd] using h2)
    exact ⟨rfl, rfl⟩
theorem span_cancel (p : UInt8 → Prop) : ∀ (A B x y : List UInt8), (∀ c ∈ A, p c) → (∀ c ∈ B, p c) → (∀ c t, x = c :: t → ¬ p c) → (∀ c t, y = c :: t → ¬ p c) → A ++ x = B ++ y → A = B ∧ x = y
  | [], [], x, y, _, _, _, _, h => ⟨rfl, by simpa using h⟩
  | [], b :: B, x, y, _, hB, hx, _, h => absurd (hB b (by simp)) (hx b (B ++ y) (by simpa using h))
  | a :: A, [], x, y, hA, _, _, hy, h => absurd (hA a (by simp)) (hy a (A ++ x) (by simpa using h.symm))
  | a :: A, b :: B, x, y, hA, hB, hx, hy, h => by
    simp only [List.cons_append, List.cons.injEq] at h
    obtain ⟨rfl, h2⟩ := h
    obtain ⟨rfl, rfl⟩ := span_cancel p A B x y (fun c hc => hA c (by simp [hc])) (fun c hc => hB c (by simp [hc])) hx hy h2
    exact ⟨rfl, rfl⟩
def dgc (c : UInt8) : Prop := 48 ≤ c.toNat ∧ c.toNat ≤ 57
theorem dec_dgc (n : Nat) : ∀ c ∈ decDigits n, dgc c := by
  induction n using Nat.strongRecOn with
  | _ n ih =>
    unfold decDigits
    split
    · intro c hc
      obtain rfl := List.mem_singleton.1 hc
      have : (UInt8.ofNat (48 + n)).toNat = 48 + n := u8t (by omega)
      unfold dgc; omega
    · intro c hc
      rcases List.mem_append.1 hc with hc | hc
      · exact ih (n / 10) (by omega) c hc
      · obtain rfl := List.mem_singleton.1 hc
        have : (UInt8.ofNat (48 + n % 10)).toNat = 48 + n % 10 := u8t (by omega)
        unfold dgc; omega
def valD (l : List UInt8) : Nat := l.foldl (fun a c => 10 * a + (c.toNat - 48)) 0
theorem valD_dec (n : Nat) : valD (decDigits n) = n := by
  induction n using Nat.strongRecOn with
  | _ n ih =>
    unfold decDigits
    split
    · have : (UInt8.ofNat (48 + n)).toNat = 48 + n := u8t (by omega)
      simp only [valD, List.foldl_cons, List.foldl_nil, this]; omega
    · have h1 := ih (n / 10) (by omega)
      have : (UInt8.ofNat (48 + n % 10)).toNat = 48 + n % 10 := u8t (by omega)
      unfold valD at h1 ⊢
      rw [List.foldl_append, h1]
      simp only [List.foldl_cons, List.foldl_nil, this]; omega
theorem dec_inj {m n : Nat} (h : decDigits m = decDigits n) : m = n := by rw [← valD_dec m, ← valD_dec n, h]
def nmc (c : UInt8) : Prop := lowc c.toNat ∨ digc c.toNat
theorem isNm_all {s : ByteArray} (h : isNm s) : ∀ c ∈ s.data.toList, nmc c := by
  intro c hc
  obtain ⟨j, hj⟩ := List.getElem?_of_mem hc
  have hlt := (List.getElem?_eq_some_iff.1 hj).1
  have h1 := h.2 j (by simpa using hlt)
  have e : byteAt s j = (c.toNat : Int) := by
    unfold byteAt
    simp only [Int.toNat_natCast, List.getD, hj, Option.getD_some]
  rw [e] at h1
  exact h1.imp id (·.2)
theorem isNm_ne {s : ByteArray} (h : isNm s) : s.data.toList ≠ [] := by
  intro e
  have h0 := h.1
  have : s.data.toList.length = s.size := by simp
  rw [e] at this
  simp at this; omega
def Vs (s : Stp) : Prop := (s.byIndex = true → s.key = ⟨#[]⟩ ∧ 0 ≤ s.index) ∧ (s.byIndex = false → s.index = 0)
theorem step_head (s : Stp) : ∃ t, stpT s = (if s.byIndex then 91 else 46) :: t := by
  unfold stpT
  split
  · rename_i h; exact ⟨itoa s.index ++ [93], by simp [h]⟩
  · rename_i h
    split
    · exact ⟨s.key.data.toList, by simp [h]⟩
    · exact ⟨34 :: (qtd s.key.data.toList ++ [34]), by simp [h]⟩
theorem flat_head {l : List Stp} {c : UInt8} {t : List UInt8} (h : l.flatMap stpT = c :: t) : c = 46 ∨ c = 91 := by
  cases l with
  | nil => simp at h
  | cons s l =>
    obtain ⟨u, hu⟩ := step_head s
    simp only [List.flatMap_cons, hu, List.cons_append, List.cons.injEq] at h
    rw [← h.1]
    split <;> simp
theorem ba_ext {a b : ByteArray} (h : a.data.toList = b.data.toList) : a = b := by
  cases a; cases b; congr 1; exact Array.toList_inj.1 h
theorem step_cancel {s u : Stp} {x y : List UInt8} (hs : Vs s) (hu : Vs u) (hx : ∀ c t, x = c :: t → c = 46 ∨ c = 91) (hy : ∀ c t, y = c :: t → c = 46 ∨ c = 91) (h : stpT s ++ x = stpT u ++ y) : s = u ∧ x = y := by
  have np : ∀ c : UInt8, (c = 46 ∨ c = 91) → ¬ nmc c := by
    rintro c (rfl | rfl) <;> unfold nmc lowc digc <;> decide
  obtain ⟨si, sk, sx⟩ := s
  obtain ⟨ui, uk, ux⟩ := u
  have hh : si = ui := by
    obtain ⟨t1, h1⟩ := step_head ⟨si, sk, sx⟩
    obtain ⟨t2, h2⟩ := step_head ⟨ui, uk, ux⟩
    rw [h1, h2] at h
    simp only [List.cons_append, List.cons.injEq] at h
    cases si <;> cases ui <;> simp at h ⊢
  subst hh
  cases si with
  | true =>
    obtain ⟨hk1, hi1⟩ := hs.1 rfl
    obtain ⟨hk2, hi2⟩ := hu.1 rfl
    simp only at hk1 hi1 hk2 hi2
    subst hk1; subst hk2
    unfold stpT at h
    simp only [if_true, List.append_assoc, List.cons_append, List.nil_append, List.cons.injEq, true_and] at h
    obtain ⟨m, rfl⟩ : ∃ m : Nat, sx = m := ⟨sx.toNat, by omega⟩
    obtain ⟨n, rfl⟩ : ∃ n : Nat, ux = n := ⟨ux.toNat, by omega⟩
    rw [itoa_nat, itoa_nat] at h
    obtain ⟨e1, e2⟩ := span_cancel dgc _ _ _ _ (dec_dgc m) (dec_dgc n) (by intro c t he; simp only [List.cons.injEq] at he; rw [← he.1]; unfold dgc; decide) (by intro c t he; simp only [List.cons.injEq] at he; rw [← he.1]; unfold dgc; decide) h
    simp only [List.cons.injEq, true_and] at e2
    rw [dec_inj e1]
    exact ⟨rfl, e2⟩
  | false =>
    have e1 := hs.2 rfl
    have e2 := hu.2 rfl
    simp only at e1 e2
    subst e1; subst e2
    unfold stpT at h
    simp only [Bool.false_eq_true, if_false] at h
    by_cases c1 : isNm sk <;> by_cases c2 : isNm uk
    · rw [if_pos c1, if_pos c2] at h
      simp only [List.cons_append, List.cons.injEq, true_and] at h
      obtain ⟨e1, e2⟩ := span_cancel nmc _ _ _ _ (isNm_all c1) (isNm_all c2) (fun c t he => np c (hx c t he)) (fun c t he => np c (hy c t he)) h
      rw [ba_ext e1]
      exact ⟨rfl, e2⟩
    · exfalso
      rw [if_pos c1, if_neg c2] at h
      simp only [List.cons_append, List.cons.injEq, true_and, List.append_assoc, List.nil_append] at h
      cases hl : sk.data.toList with
      | nil => exact isNm_ne c1 hl
      | cons c t =>
        rw [hl] at h
        simp only [List.cons_append, List.cons.injEq] at h
        have := isNm_all c1 c (by rw [hl]; simp)
        rw [h.1] at this
        unfold nmc lowc digc at this
        revert this; decide
    · exfalso
      rw [if_neg c1, if_pos c2] at h
      simp only [List.cons_append, List.cons.injEq, true_and, List.append_assoc, List.nil_append] at h
      cases hl : uk.data.toList with
      | nil => exact isNm_ne c2 hl
      | cons c t =>
        rw [hl] at h
        simp only [List.cons_append, List.cons.injEq] at h
        have := isNm_all c2 c (by rw [hl]; simp)
        rw [← h.1] at this
        unfold nmc lowc digc at this
        revert this; decide
    · rw [if_neg c1, if_neg c2] at h
      simp only [List.cons_append, List.cons.injEq, true_and, List.append_assoc, List.nil_append] at h
      obtain ⟨e1, e2⟩ := qtd_cancel _ _ _ _ h
      rw [ba_ext e1]
      exact ⟨rfl, e2⟩
theorem flat_inj : ∀ (k l : List Stp), (∀ s ∈ k, Vs s) → (∀ s ∈ l, Vs s) → k.flatMap stpT = l.flatMap stpT → k = l
  | [], [], _, _, _ => rfl
  | [], u :: l, _, _, h => by
    obtain ⟨t, ht⟩ := step_head u
    rw [List.flatMap_cons, ht] at h
    simp at h
  | s :: k, [], _, _, h => by
    obtain ⟨t, ht⟩ := step_head s
    rw [List.flatMap_cons, ht] at h
    simp at h
  | s :: k, u :: l, hk, hl, h => by
    rw [List.flatMap_cons, List.flatMap_cons] at h
    obtain ⟨rfl, h2⟩ := step_cancel (hk s (by simp)) (hl u (by simp)) (fun c t he => flat_head he) (fun c t he => flat_head he) h
    rw [flat_inj k l (fun x hx => hk x (by simp [hx])) (fun x hx => hl x (by simp [hx])) h2]
theorem step_two (s : Stp) : 2 ≤ (stpT s).length := by
  unfold stpT
  split
  · simp
  · split
    · rename_i h
      have := isNm_ne h
      cases hl : s.key.data.toList with
      | nil => exact absurd hl this
      | cons c t => simp
    · simp
theorem path_inj {k l : List Stp} (hk : ∀ s ∈ k, Vs s) (hl : ∀ s ∈ l, Vs s) (h : pathT k = pathT l) : k = l := by
  cases k with
  | nil =>
    cases l with
    | nil => rfl
    | cons u l =>
      exfalso
      have h1 := congrArg List.length h
      have h2 := step_two u
      simp only [pathT, List.flatMap_cons, List.length_append, List.length_singleton] at h1
      omega
  | cons s k =>
    cases l with
    | nil =>
      exfalso
      have h1 := congrArg List.length h
      have h2 := step_two s
      simp only [pathT, List.flatMap_cons, List.length_append, List.length_singleton] at h1
      omega
    | cons u l =>
      refine flat_inj _ _ hk hl ?_
      unfold pathT at h
      simp only at h
      by_cases c1 : s.byIndex = true <;> by_cases c2 : u.byIndex = true
      · simpa [c1, c2] using h
      · exfalso
        rw [if_pos c1, if_neg c2] at h
        obtain ⟨t1, h1⟩ := step_head s
        simp only [List.flatMap_cons, h1, c1, if_true, List.cons_append, List.nil_append] at h
        have h5 := step_two u
        unfold stpT at h h5
        rw [if_neg c2] at h h5
        split at h
        · rename_i hn
          cases hq : u.key.data.toList with
          | nil => exact isNm_ne hn hq
          | cons c t =>
            rw [hq] at h
            simp only [List.cons_append, List.cons.injEq, true_and] at h
            have := isNm_all hn c (by rw [hq]; simp)
            rw [← h.1] at this
            unfold nmc lowc digc at this
            revert this; decide
        · simp at h
      · exfalso
        rw [if_neg c1, if_pos c2] at h
        obtain ⟨t1, h1⟩ := step_head u
        simp only [List.flatMap_cons, h1, c2, if_true, List.cons_append, List.nil_append] at h
        unfold stpT at h
        rw [if_neg c1] at h
        split at h
        · rename_i hn
          cases hq : s.key.data.toList with
          | nil => exact isNm_ne hn hq
          | cons c t =>
            rw [hq] at h
            simp only [List.cons_append, List.cons.injEq, true_and] at h
            have := isNm_all hn c (by rw [hq]; simp)
            rw [h.1] at this
            unfold nmc lowc digc at this
            revert this; decide
        · simp at h
      · simpa [c1, c2] using h
end Go.Dk
end
section
set_option linter.unusedVariables false
set_option linter.unusedSimpArgs false
namespace Go.Dk
open Go Go.RowKit Go.Lib
def dz (n b0 b1 b2 b3 : Nat) : Nat := if decodeN n b0 b1 b2 b3 = (65533, 1) then 0 else (decodeN n b0 b1 b2 b3).2
def bA (s : ByteArray) (j : Nat) : Nat := (s.data.toList.getD j 0).toNat
theorem bA_lt (s : ByteArray) (j : Nat) : bA s j < 256 := (s.data.toList.getD j 0).toNat_lt
theorem byteAt_bA (s : ByteArray) (j : Nat) : byteAt s (j : Int) = (bA s j : Int) := rfl
def szAt (s : ByteArray) (a : Nat) : Nat := dz (s.size - a) (bA s a) (bA s (a + 1)) (bA s (a + 2)) (bA s (a + 3))
theorem dz_bad {n b0 b1 b2 b3 : Nat} (e : decodeN n b0 b1 b2 b3 = (65533, 1)) : dz n b0 b1 b2 b3 = 0 := by unfold dz; rw [if_pos e]
theorem dz_good {n b0 b1 b2 b3 r k : Nat} (e : decodeN n b0 b1 b2 b3 = (r, k)) (h : r ≠ 65533 ∨ k ≠ 1) : dz n b0 b1 b2 b3 = k := by
  unfold dz
  rw [e, if_neg]
  intro h2
  simp only [Prod.mk.injEq] at h2
  omega
theorem dz_1 {n b0 b1 b2 b3 : Nat} (h : b0 < 128) : dz n b0 b1 b2 b3 = 1 :=
  dz_good (r := b0) (by unfold decodeN; rw [if_pos h]) (by omega)
theorem dz_mid {n b0 b1 b2 b3 : Nat} (h : 128 ≤ b0) (h2 : b0 < 192 ∨ 248 ≤ b0) (h3 : b0 < 256) : dz n b0 b1 b2 b3 = 0 :=
  dz_bad (by unfold decodeN; rw [if_neg (by omega), if_neg (by omega), if_neg (by omega), if_neg (by omega)])
theorem dz_no2 {n b0 b1 b2 b3 : Nat} (h : 192 ≤ b0) (h2 : b0 < 224) (h3 : n < 2 ∨ b1 / 64 ≠ 2) : dz n b0 b1 b2 b3 = 0 :=
  dz_bad (by unfold decodeN; rw [if_neg (by omega), if_neg (by omega), if_neg (by omega), if_neg (by omega)])
theorem dz_2 {n b0 b1 b2 b3 : Nat} (h : 192 ≤ b0) (h2 : b0 < 224) (h3 : 2 ≤ n) (h4 : b1 / 64 = 2) : dz n b0 b1 b2 b3 = if 128 ≤ b0 % 32 * 64 + b1 % 64 then 2 else 0 := by
  by_cases hc : 128 ≤ b0 % 32 * 64 + b1 % 64
  · rw [if_pos hc]
    exact dz_good (r := b0 % 32 * 64 + b1 % 64) (by unfold decodeN; rw [if_neg (by omega), if_pos (by omega), if_pos hc]) (by omega)
  · rw [if_neg hc]
    exact dz_bad (by unfold decodeN; rw [if_neg (by omega), if_pos (by omega), if_neg hc])
theorem dz_no3 {n b0 b1 b2 b3 : Nat} (h : 224 ≤ b0) (h2 : b0 < 240) (h3 : n < 3 ∨ b1 / 64 ≠ 2 ∨ b2 / 64 ≠ 2) : dz n b0 b1 b2 b3 = 0 :=
  dz_bad (by unfold decodeN; rw [if_neg (by omega), if_neg (by omega), if_neg (by omega), if_neg (by omega)])
theorem dz_3 {n b0 b1 b2 b3 : Nat} (h : 224 ≤ b0) (h2 : b0 < 240) (h3 : 3 ≤ n) (h4 : b1 / 64 = 2) (h5 : b2 / 64 = 2) :
    dz n b0 b1 b2 b3 = if b0 % 16 * 4096 + b1 % 64 * 64 + b2 % 64 ≥ 2048 ∧ (b0 % 16 * 4096 + b1 % 64 * 64 + b2 % 64 < 55296 ∨ 57344 ≤ b0 % 16 * 4096 + b1 % 64 * 64 + b2 % 64) then 3 else 0 := by
  by_cases hc : b0 % 16 * 4096 + b1 % 64 * 64 + b2 % 64 ≥ 2048 ∧ (b0 % 16 * 4096 + b1 % 64 * 64 + b2 % 64 < 55296 ∨ 57344 ≤ b0 % 16 * 4096 + b1 % 64 * 64 + b2 % 64)
  · rw [if_pos hc]
    exact dz_good (r := b0 % 16 * 4096 + b1 % 64 * 64 + b2 % 64) (by unfold decodeN; rw [if_neg (by omega), if_neg (by omega), if_pos (by omega), if_pos (by omega)]) (by omega)
  · rw [if_neg hc]
    exact dz_bad (by unfold decodeN; rw [if_neg (by omega), if_neg (by omega), if_pos (by omega), if_neg (by omega)])
theorem dz_no4 {n b0 b1 b2 b3 : Nat} (h : 240 ≤ b0) (h2 : b0 < 248) (h3 : n < 4 ∨ b1 / 64 ≠ 2 ∨ b2 / 64 ≠ 2 ∨ b3 / 64 ≠ 2) : dz n b0 b1 b2 b3 = 0 :=
  dz_bad (by unfold decodeN; rw [if_neg (by omega), if_neg (by omega), if_neg (by omega), if_neg (by omega)])
theorem dz_4 {n b0 b1 b2 b3 : Nat} (h : 240 ≤ b0) (h2 : b0 < 248) (h3 : 4 ≤ n) (h4 : b1 / 64 = 2) (h5 : b2 / 64 = 2) (h6 : b3 / 64 = 2) :
    dz n b0 b1 b2 b3 = if b0 % 8 * 262144 + b1 % 64 * 4096 + b2 % 64 * 64 + b3 % 64 ≥ 65536 ∧ b0 % 8 * 262144 + b1 % 64 * 4096 + b2 % 64 * 64 + b3 % 64 ≤ 1114111 then 4 else 0 := by
  by_cases hc : b0 % 8 * 262144 + b1 % 64 * 4096 + b2 % 64 * 64 + b3 % 64 ≥ 65536 ∧ b0 % 8 * 262144 + b1 % 64 * 4096 + b2 % 64 * 64 + b3 % 64 ≤ 1114111
  · rw [if_pos hc]
    exact dz_good (r := b0 % 8 * 262144 + b1 % 64 * 4096 + b2 % 64 * 64 + b3 % 64) (by unfold decodeN; rw [if_neg (by omega), if_neg (by omega), if_neg (by omega), if_pos (by omega), if_pos (by omega)]) (by omega)
  · rw [if_neg hc]
    exact dz_bad (by unfold decodeN; rw [if_neg (by omega), if_neg (by omega), if_neg (by omega), if_pos (by omega), if_neg (by omega)])
theorem dz_le (n b0 b1 b2 b3 : Nat) (hn : 1 ≤ n) : dz n b0 b1 b2 b3 ≤ n ∧ dz n b0 b1 b2 b3 ≤ 4 := by
  unfold dz
  split
  · omega
  · unfold decodeN
    repeat' split
    all_goals (simp only; omega)
theorem szAt_le (s : ByteArray) (a : Nat) (h : a < s.size) : a + szAt s a ≤ s.size ∧ szAt s a ≤ 4 := by
  have := dz_le (s.size - a) (bA s a) (bA s (a + 1)) (bA s (a + 2)) (bA s (a + 3)) (by omega)
  unfold szAt
  omega
/-! ### texts -/
theorem getb (l : List UInt8) (a j : Nat) : ((⟨(l.drop a).toArray⟩ : ByteArray).get! j) = l.getD (a + j) 0 := by
  unfold ByteArray.get!
  simp [List.getD, List.getElem?_drop]
  rfl
theorem decodeL_szAt (s : ByteArray) (a : Nat) (h : a < s.size) : decodeL (s.data.toList.drop a) = decodeN (s.size - a) (bA s a) (bA s (a + 1)) (bA s (a + 2)) (bA s (a + 3)) := by
  unfold decodeL
  rw [decode_at]
  have hs : (⟨(s.data.toList.drop a).toArray⟩ : ByteArray).size - 0 = s.size - a := by
    show (s.data.toList.drop a).toArray.size - 0 = s.data.size - a
    rw [List.size_toArray, List.length_drop, Array.length_toList]
    rfl
  rw [hs, getb, getb, getb, getb]
  rfl
theorem valid_0 (s : ByteArray) (a : Nat) (h : a < s.size) (hz : szAt s a = 0) : validD (s.data.toList.drop a) = false := by
  have hne : s.data.toList.drop a ≠ [] := by
    intro e
    have := congrArg List.length e
    simp at this
    have h2 : s.data.size = s.size := rfl
    omega
  rw [validD_step _ hne, decodeL_szAt s a h]
  have hb : decodeN (s.size - a) (bA s a) (bA s (a + 1)) (bA s (a + 2)) (bA s (a + 3)) = (65533, 1) := by
    unfold szAt dz at hz
    split at hz
    · assumption
    · exfalso
      revert hz
      unfold decodeN
      repeat' split
      all_goals simp
  rw [hb]; simp
theorem valid_n (s : ByteArray) (a : Nat) (h : a < s.size) (hz : szAt s a ≠ 0) : validD (s.data.toList.drop a) = validD (s.data.toList.drop (a + szAt s a)) := by
  have hne : s.data.toList.drop a ≠ [] := by
    intro e
    have := congrArg List.length e
    simp at this
    have h2 : s.data.size = s.size := rfl
    omega
  rw [validD_step _ hne, decodeL_szAt s a h]
  unfold szAt dz at hz ⊢
  split at hz
  · exact absurd rfl hz
  · rename_i hn
    rw [if_neg hn, if_neg (fun e => hn (Prod.ext e.1 e.2)), List.drop_drop]
theorem valid_end (s : ByteArray) (a : Nat) (h : s.size ≤ a) : validD (s.data.toList.drop a) = true := by
  rw [List.drop_eq_nil_of_le (by simpa using h)]
  exact validD_nil
/-! ### the numbers that bytes spell -/
def accN (s : ByteArray) (a r0 : Nat) : Nat → Nat
  | 0 => r0
  | i + 1 => accN s a r0 i * 64 + bA s (a + (i + 1)) % 64
theorem accN_lt (s : ByteArray) (a r0 : Nat) (h : r0 < 256) : ∀ i, i ≤ 3 → accN s a r0 i < 256 * 64 ^ i
  | 0, _ => by simpa [accN] using h
  | i + 1, hi => by
    have := accN_lt s a r0 h i (by omega)
    simp only [accN, Nat.pow_succ]
    omega
theorem and_lows : ∀ b : Fin 256, bitOp .and .i64 (b.val : Int) 7 = ((b.val % 8 : Nat) : Int) ∧ bitOp .and .i64 (b.val : Int) 15 = ((b.val % 16 : Nat) : Int) ∧ bitOp .and .i64 (b.val : Int) 31 = ((b.val % 32 : Nat) : Int) ∧ bitOp .and .i64 (b.val : Int) 63 = ((b.val % 64 : Nat) : Int) := by decide +kernel
theorem and_low8 : ∀ b : Fin 256, bitOp .and .u8 (b.val : Int) 7 = ((b.val % 8 : Nat) : Int) ∧ bitOp .and .u8 (b.val : Int) 15 = ((b.val % 16 : Nat) : Int) ∧ bitOp .and .u8 (b.val : Int) 31 = ((b.val % 32 : Nat) : Int) ∧ bitOp .and .u8 (b.val : Int) 63 = ((b.val % 64 : Nat) : Int) ∧ (bitOp .and .u8 (b.val : Int) 192 = 128 ↔ b.val / 64 = 2) := by decide +kernel
theorem or_highs : ∀ b : Fin 64, bitOp .or .i64 128 (b.val : Int) = ((128 + b.val : Nat) : Int) ∧ (b.val < 32 → bitOp .or .i64 192 (b.val : Int) = ((192 + b.val : Nat) : Int)) ∧ (b.val < 16 → bitOp .or .i64 224 (b.val : Int) = ((224 + b.val : Nat) : Int)) ∧ (b.val < 8 → bitOp .or .i64 240 (b.val : Int) = ((240 + b.val : Nat) : Int)) := by decide +kernel
theorem and7 {b : Nat} (h : b < 256) : bitOp .and .i64 (b : Int) 7 = ((b % 8 : Nat) : Int) := (and_lows ⟨b, h⟩).1
theorem and15 {b : Nat} (h : b < 256) : bitOp .and .i64 (b : Int) 15 = ((b % 16 : Nat) : Int) := (and_lows ⟨b, h⟩).2.1
theorem and31 {b : Nat} (h : b < 256) : bitOp .and .i64 (b : Int) 31 = ((b % 32 : Nat) : Int) := (and_lows ⟨b, h⟩).2.2.1
theorem and63 {b : Nat} (h : b < 256) : bitOp .and .i64 (b : Int) 63 = ((b % 64 : Nat) : Int) := (and_lows ⟨b, h⟩).2.2.2
theorem and7b {b : Nat} (h : b < 256) : bitOp .and .u8 (b : Int) 7 = ((b % 8 : Nat) : Int) := (and_low8 ⟨b, h⟩).1
theorem and15b {b : Nat} (h : b < 256) : bitOp .and .u8 (b : Int) 15 = ((b % 16 : Nat) : Int) := (and_low8 ⟨b, h⟩).2.1
theorem and31b {b : Nat} (h : b < 256) : bitOp .and .u8 (b : Int) 31 = ((b % 32 : Nat) : Int) := (and_low8 ⟨b, h⟩).2.2.1
theorem and63b {b : Nat} (h : b < 256) : bitOp .and .u8 (b : Int) 63 = ((b % 64 : Nat) : Int) := (and_low8 ⟨b, h⟩).2.2.2.1
theorem and192b {b : Nat} (h : b < 256) : bitOp .and .u8 (b : Int) 192 = 128 ↔ b / 64 = 2 := (and_low8 ⟨b, h⟩).2.2.2.2
theorem or128 {b : Nat} (h : b < 64) : bitOp .or .i64 128 (b : Int) = ((128 + b : Nat) : Int) := (or_highs ⟨b, h⟩).1
theorem or192 {b : Nat} (h : b < 32) : bitOp .or .i64 192 (b : Int) = ((192 + b : Nat) : Int) := (or_highs ⟨b, by omega⟩).2.1 h
theorem or224 {b : Nat} (h : b < 16) : bitOp .or .i64 224 (b : Int) = ((224 + b : Nat) : Int) := (or_highs ⟨b, by omega⟩).2.2.1 h
theorem or240 {b : Nat} (h : b < 8) : bitOp .or .i64 240 (b : Int) = ((240 + b : Nat) : Int) := (or_highs ⟨b, by omega⟩).2.2.2 h
theorem ofI (n : Nat) : BitVec.ofInt 64 (n : Int) = BitVec.ofNat 64 n := by
  apply BitVec.eq_of_toNat_eq
  simp
theorem shl6 {r : Nat} (h : r < 4294967296) : shl .i64 (r : Int) 6 = ((r * 64 : Nat) : Int) := by
  unfold shl
  have : IntKind.i64.wrap ((r : Int) * 2 ^ min 6 IntKind.i64.bits) = ((r * 64 : Nat) : Int) := by
    have e : ((r : Int) * 2 ^ min 6 IntKind.i64.bits) = ((r * 64 : Nat) : Int) := by
      simp [IntKind.bits]
    rw [e]
    exact IntWalk.i64_in _ (by omega)
  exact this
theorem or_add {r x : Nat} (h : r < 4294967296) (hx : x < 64) : bitOp .or .i64 ((r * 64 : Nat) : Int) (x : Int) = ((r * 64 + x : Nat) : Int) := by
  unfold bitOp
  simp only
  have e1 : IntKind.i64.bits = 64 := rfl
  rw [e1, ofI, ofI, BitVec.toNat_or, BitVec.toNat_ofNat, BitVec.toNat_ofNat, Nat.mod_eq_of_lt (by omega), Nat.mod_eq_of_lt (by omega)]
  have e2 : r * 64 ||| x = r * 64 + x := by
    have := Nat.shiftLeft_add_eq_or_of_lt (i := 6) (show x < 2 ^ 6 by omega) r
    rw [Nat.shiftLeft_eq] at this
    exact this.symm
  rw [e2]
  exact IntWalk.i64_in _ (by omega)
theorem shrN {r : Nat} (k : Nat) (hk : k ≤ 64) : shr .i64 (r : Int) k = ((r / 2 ^ k : Nat) : Int) := by
  unfold shr
  have e : min k IntKind.i64.bits = k := by simp [IntKind.bits]; omega
  rw [e, Int.fdiv_eq_ediv_of_nonneg _ (Int.pow_nonneg (by decide)), Int.natCast_ediv]
  simp
theorem and63N {r : Nat} (h : r < 4294967296) : bitOp .and .i64 (r : Int) 63 = ((r % 64 : Nat) : Int) := by
  unfold bitOp
  simp only
  have e1 : IntKind.i64.bits = 64 := rfl
  have e2 : (63 : Int) = ((63 : Nat) : Int) := rfl
  rw [e1, e2, ofI, ofI, BitVec.toNat_and, BitVec.toNat_ofNat, BitVec.toNat_ofNat, Nat.mod_eq_of_lt (by omega), Nat.mod_eq_of_lt (by omega)]
  have e3 : r &&& 63 = r % 64 := Nat.and_two_pow_sub_one_eq_mod r 6
  rw [e3]
  exact IntWalk.i64_in _ (by omega)
theorem u8_in {n : Nat} (h : n < 256) : IntKind.u8.wrap (n : Int) = (n : Int) := by
  simp [IntKind.wrap, IntKind.signed, IntKind.bits]; omega
theorem strOf_1 (a : Nat) (ha : a < 256) : strOf [(a : Int)] = bs [UInt8.ofNat a] := by simp [strOf, bs]; rfl
def chN (r : Nat) : Bool := decide (r ≤ 1114111) && (decide (r < 55296) || decide (57343 < r))
def encN (r : Nat) : List UInt8 :=
  if chN r = false then [] else if r < 128 then [UInt8.ofNat r] else if r < 2048 then [UInt8.ofNat (192 + r / 64), UInt8.ofNat (128 + r % 64)]
  else if r < 65536 then [UInt8.ofNat (224 + r / 4096), UInt8.ofNat (128 + r / 64 % 64), UInt8.ofNat (128 + r % 64)]
  else [UInt8.ofNat (240 + r / 262144), UInt8.ofNat (128 + r / 4096 % 64), UInt8.ofNat (128 + r / 64 % 64), UInt8.ofNat (128 + r % 64)]
def hdR (b : Nat) : Nat × Nat := if 240 ≤ b then (4, b % 8) else if 224 ≤ b then (3, b % 16) else if 192 ≤ b then (2, b % 32) else (1, b)
def hdU (b : Nat) : Nat × Nat := if b < 128 then (1, b) else if 192 ≤ b ∧ b < 224 then (2, b % 32) else if 224 ≤ b ∧ b < 240 then (3, b % 16) else if 240 ≤ b ∧ b < 248 then (4, b % 8) else (0, 0)
def wdN (r : Nat) : Nat := if r < 128 then 1 else if r < 2048 then 2 else if r < 65536 then 3 else 4
theorem u8n (x : Nat) (c : UInt8) (h : x < 256) : UInt8.ofNat x = c ↔ x = c.toNat := by
  constructor
  · rintro rfl; exact (u8t h).symm
  · rintro rfl; exact UInt8.ofNat_toNat
theorem chN_iff (r : Nat) : chN r = true ↔ r ≤ 1114111 ∧ (r < 55296 ∨ 57343 < r) := by
  unfold chN
  simp
theorem chN_no (r : Nat) : chN r = false ↔ ¬ (r ≤ 1114111 ∧ (r < 55296 ∨ 57343 < r)) := by
  rw [← chN_iff]; simp
theorem bA_i (s : ByteArray) (j : Nat) (h : j < s.size) : s.data.toList.drop j = (s.data.toList.getD j 0) :: s.data.toList.drop (j + 1) := by
  have h' : j < s.data.toList.length := by simpa using h
  rw [List.drop_eq_getElem_cons h']
  simp [List.getD, List.getElem?_eq_getElem h']
theorem szU_short {s : ByteArray} {a : Nat} (ha : a < s.size) (h : (hdU (bA s a)).1 = 0 ∨ s.size - a < (hdU (bA s a)).1) : szAt s a = 0 := by
  have h0 := bA_lt s a
  unfold szAt
  unfold hdU at h
  by_cases h1 : bA s a < 128
  · rw [if_pos h1] at h; simp only at h; omega
  · rw [if_neg h1] at h
    by_cases h2 : 192 ≤ bA s a ∧ bA s a < 224
    · rw [if_pos h2] at h; simp only at h
      exact dz_no2 h2.1 h2.2 (.inl (by omega))
    · rw [if_neg h2] at h
      by_cases h3 : 224 ≤ bA s a ∧ bA s a < 240
      · rw [if_pos h3] at h; simp only at h
        exact dz_no3 h3.1 h3.2 (.inl (by omega))
      · rw [if_neg h3] at h
        by_cases h4 : 240 ≤ bA s a ∧ bA s a < 248
        · rw [if_pos h4] at h; simp only at h
          exact dz_no4 h4.1 h4.2 (.inl (by omega))
        · exact dz_mid (by omega) (by omega) h0
theorem szU_cont {s : ByteArray} {a i : Nat} (h1 : 1 ≤ i) (h2 : i < (hdU (bA s a)).1) (h : bA s (a + i) / 64 ≠ 2) : szAt s a = 0 := by
  have h0 := bA_lt s a
  unfold szAt
  unfold hdU at h2
  split at h2
  · simp only at h2; omega
  · split at h2
    · rename_i h3; simp only at h2
      obtain rfl : i = 1 := by omega
      exact dz_no2 h3.1 h3.2 (.inr h)
    · split at h2
      · rename_i h3; simp only at h2
        refine dz_no3 h3.1 h3.2 ?_
        have : i = 1 ∨ i = 2 := by omega
        rcases this with rfl | rfl
        · exact .inr (.inl h)
        · exact .inr (.inr h)
      · split at h2
        · rename_i h3; simp only at h2
          refine dz_no4 h3.1 h3.2 ?_
          have : i = 1 ∨ i = 2 ∨ i = 3 := by omega
          rcases this with rfl | rfl | rfl
          · exact .inr (.inl h)
          · exact .inr (.inr (.inl h))
          · exact .inr (.inr (.inr h))
        · simp only at h2; omega
theorem szU_end {s : ByteArray} {a : Nat} (ha : a < s.size) (h0 : (hdU (bA s a)).1 ≠ 0) (hn : (hdU (bA s a)).1 ≤ s.size - a) (hc : ∀ i, 1 ≤ i → i < (hdU (bA s a)).1 → bA s (a + i) / 64 = 2) :
    szAt s a = if chN (accN s a (hdU (bA s a)).2 ((hdU (bA s a)).1 - 1)) = true ∧ wdN (accN s a (hdU (bA s a)).2 ((hdU (bA s a)).1 - 1)) = (hdU (bA s a)).1 then (hdU (bA s a)).1 else 0 := by
  have hb := bA_lt s a
  unfold szAt
  by_cases h1 : bA s a < 128
  · have e : hdU (bA s a) = (1, bA s a) := by unfold hdU; rw [if_pos h1]
    rw [dz_1 h1, e]
    simp only [Nat.sub_self, accN]
    rw [if_pos]
    exact ⟨(chN_iff _).2 (by omega), by unfold wdN; rw [if_pos h1]⟩
  · by_cases h2 : 192 ≤ bA s a ∧ bA s a < 224
    · have e : hdU (bA s a) = (2, bA s a % 32) := by unfold hdU; rw [if_neg h1, if_pos h2]
      rw [e] at hn hc ⊢
      simp only at hn hc ⊢
      rw [dz_2 h2.1 h2.2 hn (hc 1 (by omega) (by omega))]
      simp only [accN, Nat.zero_add, chN_iff]
      unfold wdN
      repeat' split
      all_goals omega
    · by_cases h3 : 224 ≤ bA s a ∧ bA s a < 240
      · have e : hdU (bA s a) = (3, bA s a % 16) := by unfold hdU; rw [if_neg h1, if_neg h2, if_pos h3]
        rw [e] at hn hc ⊢
        simp only at hn hc ⊢
        rw [dz_3 h3.1 h3.2 hn (hc 1 (by omega) (by omega)) (hc 2 (by omega) (by omega))]
        simp only [accN, Nat.zero_add, chN_iff]
        unfold wdN
        repeat' split
        all_goals omega
      · by_cases h4 : 240 ≤ bA s a ∧ bA s a < 248
        · have e : hdU (bA s a) = (4, bA s a % 8) := by unfold hdU; rw [if_neg h1, if_neg h2, if_neg h3, if_pos h4]
          rw [e] at hn hc ⊢
          simp only at hn hc ⊢
          rw [dz_4 h4.1 h4.2 hn (hc 1 (by omega) (by omega)) (hc 2 (by omega) (by omega)) (hc 3 (by omega) (by omega))]
          simp only [accN, Nat.zero_add, chN_iff]
          unfold wdN
          repeat' split
          all_goals omega
        · exfalso
          apply h0
          unfold hdU
          rw [if_neg h1, if_neg h2, if_neg h3, if_neg h4]
theorem szR_short {s : ByteArray} {a : Nat} (ha : a < s.size) (h : s.size - a < (hdR (bA s a)).1) : szAt s a = 0 := by
  have h0 := bA_lt s a
  unfold szAt
  unfold hdR at h
  by_cases h4 : 240 ≤ bA s a
  · rw [if_pos h4] at h; simp only at h
    by_cases h5 : bA s a < 248
    · exact dz_no4 h4 h5 (.inl h)
    · exact dz_mid (by omega) (by omega) h0
  · rw [if_neg h4] at h
    by_cases h3 : 224 ≤ bA s a
    · rw [if_pos h3] at h; simp only at h
      exact dz_no3 h3 (by omega) (.inl h)
    · rw [if_neg h3] at h
      by_cases h2 : 192 ≤ bA s a
      · rw [if_pos h2] at h; simp only at h
        exact dz_no2 h2 (by omega) (.inl h)
      · rw [if_neg h2] at h; simp only at h; omega
theorem szR_end {s : ByteArray} {a : Nat} (ha : a < s.size) (hn : (hdR (bA s a)).1 ≤ s.size - a) :
    szAt s a = if chN (accN s a (hdR (bA s a)).2 ((hdR (bA s a)).1 - 1)) = true ∧ encN (accN s a (hdR (bA s a)).2 ((hdR (bA s a)).1 - 1)) = (s.data.toList.drop a).take (hdR (bA s a)).1 then (hdR (bA s a)).1 else 0 := by
  have hb0 := bA_lt s a
  have hb1 := bA_lt s (a + 1)
  have hb2 := bA_lt s (a + 2)
  have hb3 := bA_lt s (a + 3)
  unfold szAt
  by_cases h4 : 240 ≤ bA s a
  · have e : hdR (bA s a) = (4, bA s a % 8) := by unfold hdR; rw [if_pos h4]
    rw [e] at hn ⊢
    simp only at hn ⊢
    have d0 := bA_i s a (by omega)
    have d1 := bA_i s (a + 1) (by omega)
    have d2 := bA_i s (a + 1 + 1) (by omega)
    have d3 := bA_i s (a + 1 + 1 + 1) (by omega)
    rw [d0, d1, d2, d3]
    simp only [List.take_succ_cons, List.take_zero, accN, Nat.zero_add]
    generalize hr : ((bA s a % 8 * 64 + bA s (a + 1) % 64) * 64 + bA s (a + (1 + 1)) % 64) * 64 + bA s (a + (1 + 1 + 1)) % 64 = r
    have hr' : bA s a % 8 * 262144 + bA s (a + 1) % 64 * 4096 + bA s (a + 2) % 64 * 64 + bA s (a + 3) % 64 = r := by (have e2 : bA s (a + (1 + 1)) = bA s (a + 2) := rfl); (have e3 : bA s (a + (1 + 1 + 1)) = bA s (a + 3) := rfl); rw [← hr]; omega
    have henc : (chN r = true ∧ encN r = [s.data.toList.getD a 0, s.data.toList.getD (a + 1) 0, s.data.toList.getD (a + 1 + 1) 0, s.data.toList.getD (a + 1 + 1 + 1) 0]) ↔ (65536 ≤ r ∧ r ≤ 1114111 ∧ 240 + r / 262144 = bA s a ∧ 128 + r / 4096 % 64 = bA s (a + 1) ∧ 128 + r / 64 % 64 = bA s (a + 2) ∧ 128 + r % 64 = bA s (a + 3)) := by
      constructor
      · rintro ⟨c1, c2⟩
        have c3 := (chN_iff r).1 c1
        unfold encN at c2
        rw [if_neg (by rw [c1]; exact Bool.noConfusion)] at c2
        split at c2
        · simp at c2
        · split at c2
          · simp at c2
          · split at c2
            · simp at c2
            · simp only [List.cons.injEq, and_true] at c2
              rw [u8n _ _ (by omega), u8n _ _ (by omega), u8n _ _ (by omega), u8n _ _ (by omega)] at c2
              exact ⟨by omega, by omega, c2.1, c2.2.1, c2.2.2.1, c2.2.2.2⟩
      · rintro ⟨c1, c2, c3, c4, c5, c6⟩
        have c7 : chN r = true := (chN_iff r).2 (by omega)
        refine ⟨c7, ?_⟩
        unfold encN
        rw [if_neg (by rw [c7]; exact Bool.noConfusion), if_neg (by omega), if_neg (by omega), if_neg (by omega)]
        simp only [List.cons.injEq, and_true]
        rw [u8n _ _ (by omega), u8n _ _ (by omega), u8n _ _ (by omega), u8n _ _ (by omega)]
        exact ⟨c3, c4, c5, c6⟩
    rw [show (if (chN r = true ∧ encN r = [s.data.toList.getD a 0, s.data.toList.getD (a + 1) 0, s.data.toList.getD (a + 1 + 1) 0, s.data.toList.getD (a + 1 + 1 + 1) 0]) then 4 else 0) = (if (65536 ≤ r ∧ r ≤ 1114111 ∧ 240 + r / 262144 = bA s a ∧ 128 + r / 4096 % 64 = bA s (a + 1) ∧ 128 + r / 64 % 64 = bA s (a + 2) ∧ 128 + r % 64 = bA s (a + 3)) then 4 else 0) by simp only [henc]]
    by_cases h5 : bA s a < 248
    · by_cases hc : bA s (a + 1) / 64 = 2 ∧ bA s (a + 2) / 64 = 2 ∧ bA s (a + 3) / 64 = 2
      · rw [dz_4 h4 h5 hn hc.1 hc.2.1 hc.2.2, hr']
        repeat' split
        all_goals omega
      · rw [dz_no4 h4 h5 (.inr (by omega)), if_neg (by omega)]
    · rw [dz_mid (by omega) (by omega) hb0, if_neg (by omega)]
  · by_cases h3 : 224 ≤ bA s a
    · have e : hdR (bA s a) = (3, bA s a % 16) := by unfold hdR; rw [if_neg h4, if_pos h3]
      rw [e] at hn ⊢
      simp only at hn ⊢
      have d0 := bA_i s a (by omega)
      have d1 := bA_i s (a + 1) (by omega)
      have d2 := bA_i s (a + 1 + 1) (by omega)
      rw [d0, d1, d2]
      simp only [List.take_succ_cons, List.take_zero, accN, Nat.zero_add]
      generalize hr : (bA s a % 16 * 64 + bA s (a + 1) % 64) * 64 + bA s (a + (1 + 1)) % 64 = r
      have hr' : bA s a % 16 * 4096 + bA s (a + 1) % 64 * 64 + bA s (a + 2) % 64 = r := by (have e2 : bA s (a + (1 + 1)) = bA s (a + 2) := rfl); (have e3 : bA s (a + (1 + 1 + 1)) = bA s (a + 3) := rfl); rw [← hr]; omega
      have henc : (chN r = true ∧ encN r = [s.data.toList.getD a 0, s.data.toList.getD (a + 1) 0, s.data.toList.getD (a + 1 + 1) 0]) ↔ (2048 ≤ r ∧ (r < 55296 ∨ 57343 < r) ∧ 224 + r / 4096 = bA s a ∧ 128 + r / 64 % 64 = bA s (a + 1) ∧ 128 + r % 64 = bA s (a + 2)) := by
        constructor
        · rintro ⟨c1, c2⟩
          have c3 := (chN_iff r).1 c1
          unfold encN at c2
          rw [if_neg (by rw [c1]; exact Bool.noConfusion)] at c2
          split at c2
          · simp at c2
          · split at c2
            · simp at c2
            · split at c2
              · simp only [List.cons.injEq, and_true] at c2
                rw [u8n _ _ (by omega), u8n _ _ (by omega), u8n _ _ (by omega)] at c2
                exact ⟨by omega, by omega, c2.1, c2.2.1, c2.2.2⟩
              · simp at c2
        · rintro ⟨c1, c2, c3, c4, c5⟩
          have c7 : chN r = true := (chN_iff r).2 (by omega)
          refine ⟨c7, ?_⟩
          unfold encN
          rw [if_neg (by rw [c7]; exact Bool.noConfusion), if_neg (by omega), if_neg (by omega), if_pos (by omega)]
          simp only [List.cons.injEq, and_true]
          rw [u8n _ _ (by omega), u8n _ _ (by omega), u8n _ _ (by omega)]
          exact ⟨c3, c4, c5⟩
      rw [show (if (chN r = true ∧ encN r = [s.data.toList.getD a 0, s.data.toList.getD (a + 1) 0, s.data.toList.getD (a + 1 + 1) 0]) then 3 else 0) = (if (2048 ≤ r ∧ (r < 55296 ∨ 57343 < r) ∧ 224 + r / 4096 = bA s a ∧ 128 + r / 64 % 64 = bA s (a + 1) ∧ 128 + r % 64 = bA s (a + 2)) then 3 else 0) by simp only [henc]]
      by_cases hc : bA s (a + 1) / 64 = 2 ∧ bA s (a + 2) / 64 = 2
      · rw [dz_3 h3 (by omega) hn hc.1 hc.2, hr']
        repeat' split
        all_goals omega
      · rw [dz_no3 h3 (by omega) (.inr (by omega)), if_neg (by omega)]
    · by_cases h2 : 192 ≤ bA s a
      · have e : hdR (bA s a) = (2, bA s a % 32) := by unfold hdR; rw [if_neg h4, if_neg h3, if_pos h2]
        rw [e] at hn ⊢
        simp only at hn ⊢
        have d0 := bA_i s a (by omega)
        have d1 := bA_i s (a + 1) (by omega)
        rw [d0, d1]
        simp only [List.take_succ_cons, List.take_zero, accN, Nat.zero_add]
        generalize hr : bA s a % 32 * 64 + bA s (a + 1) % 64 = r
        have henc : (chN r = true ∧ encN r = [s.data.toList.getD a 0, s.data.toList.getD (a + 1) 0]) ↔ (128 ≤ r ∧ 192 + r / 64 = bA s a ∧ 128 + r % 64 = bA s (a + 1)) := by
          constructor
          · rintro ⟨c1, c2⟩
            have c3 := (chN_iff r).1 c1
            unfold encN at c2
            rw [if_neg (by rw [c1]; exact Bool.noConfusion)] at c2
            split at c2
            · simp at c2
            · split at c2
              · simp only [List.cons.injEq, and_true] at c2
                rw [u8n _ _ (by omega), u8n _ _ (by omega)] at c2
                exact ⟨by omega, c2.1, c2.2⟩
              · split at c2
                · simp at c2
                · simp at c2
          · rintro ⟨c1, c3, c4⟩
            have c7 : chN r = true := (chN_iff r).2 (by omega)
            refine ⟨c7, ?_⟩
            unfold encN
            rw [if_neg (by rw [c7]; exact Bool.noConfusion), if_neg (by omega), if_pos (by omega)]
            simp only [List.cons.injEq, and_true]
            rw [u8n _ _ (by omega), u8n _ _ (by omega)]
            exact ⟨c3, c4⟩
        rw [show (if (chN r = true ∧ encN r = [s.data.toList.getD a 0, s.data.toList.getD (a + 1) 0]) then 2 else 0) = (if (128 ≤ r ∧ 192 + r / 64 = bA s a ∧ 128 + r % 64 = bA s (a + 1)) then 2 else 0) by simp only [henc]]
        by_cases hc : bA s (a + 1) / 64 = 2
        · rw [dz_2 h2 (by omega) hn hc, hr]
          repeat' split
          all_goals omega
        · rw [dz_no2 h2 (by omega) (.inr hc), if_neg (by omega)]
      · have e : hdR (bA s a) = (1, bA s a) := by unfold hdR; rw [if_neg h4, if_neg h3, if_neg h2]
        rw [e] at hn ⊢
        simp only at hn ⊢
        have d0 := bA_i s a (by omega)
        rw [d0]
        simp only [List.take_succ_cons, List.take_zero, Nat.sub_self, accN]
        generalize hr : bA s a = r at *
        have henc : (chN r = true ∧ encN r = [s.data.toList.getD a 0]) ↔ r < 128 := by
          constructor
          · rintro ⟨c1, c2⟩
            unfold encN at c2
            rw [if_neg (by rw [c1]; exact Bool.noConfusion)] at c2
            split at c2
            · assumption
            · split at c2
              · simp at c2
              · split at c2 <;> simp at c2
          · intro c1
            have c7 : chN r = true := (chN_iff r).2 (by omega)
            refine ⟨c7, ?_⟩
            unfold encN
            rw [if_neg (by rw [c7]; exact Bool.noConfusion), if_pos c1]
            simp only [List.cons.injEq, and_true]
            rw [u8n _ _ (by omega)]
            exact hr.symm
        rw [show (if (chN r = true ∧ encN r = [s.data.toList.getD a 0]) then 1 else 0) = (if r < 128 then 1 else 0) by simp only [henc]]
        by_cases h1 : r < 128
        · rw [dz_1 h1, if_pos h1]
        · rw [dz_mid (by omega) (by omega) hb0, if_neg h1]
end Go.Dk
namespace Go.Dk
open Go Go.RowKit Go.Lib
theorem hdR_lo (b : Nat) : 1 ≤ (hdR b).1 ∧ (hdR b).1 ≤ 4 ∧ ((hdR b).2 < 256 ∨ 256 ≤ b) := by
  unfold hdR
  repeat' split
  all_goals (simp only; omega)
theorem hdU_lo (b : Nat) (h : b < 256) : (hdU b).1 ≤ 4 ∧ (hdU b).2 < 256 := by
  unfold hdU
  repeat' split
  all_goals (simp only; omega)
theorem strOf_w1 {a : Nat} (ha : a < 256) : strOf [IntKind.u8.wrap (a : Int)] = bs [UInt8.ofNat a] := by
  rw [u8_in ha]; simp [strOf, bs]; rfl
theorem strOf_w2 {a b : Nat} (ha : a < 256) (hb : b < 256) : strOf [IntKind.u8.wrap (a : Int), IntKind.u8.wrap (b : Int)] = bs [UInt8.ofNat a, UInt8.ofNat b] := by
  rw [u8_in ha, u8_in hb]; simp [strOf, bs]; rfl
theorem strOf_w3 {a b c : Nat} (ha : a < 256) (hb : b < 256) (hc : c < 256) : strOf [IntKind.u8.wrap (a : Int), IntKind.u8.wrap (b : Int), IntKind.u8.wrap (c : Int)] = bs [UInt8.ofNat a, UInt8.ofNat b, UInt8.ofNat c] := by
  rw [u8_in ha, u8_in hb, u8_in hc]; simp [strOf, bs]; rfl
theorem strOf_w4 {a b c d : Nat} (ha : a < 256) (hb : b < 256) (hc : c < 256) (hd : d < 256) : strOf [IntKind.u8.wrap (a : Int), IntKind.u8.wrap (b : Int), IntKind.u8.wrap (c : Int), IntKind.u8.wrap (d : Int)] = bs [UInt8.ofNat a, UInt8.ofNat b, UInt8.ofNat c, UInt8.ofNat d] := by
  rw [u8_in ha, u8_in hb, u8_in hc, u8_in hd]; simp [strOf, bs]; rfl
theorem cut_list {s : ByteArray} {a b : Nat} (h1 : a ≤ b) (h2 : b ≤ s.size) : (s.extract a b).data.toList = (s.data.toList.drop a).take (b - a) := by
  rw [ByteArray.data_extract]
  simp
theorem cut_eq (s : ByteArray) (a b : Nat) (h1 : a ≤ b) (h2 : b ≤ s.size) : bs ((s.data.toList.drop a).take (b - a)) = s.extract a b := by
  rw [← cut_list h1 h2]; exact bs_of _
theorem tup_h {b : Nat} {p : Nat × Nat} {x y : Value} (h : hdU b = p) (hx : x = .int .i64 p.1) (hy : y = .int .i64 p.2) : Value.tuple #[x, y] = .tuple #[.int .i64 (hdU b).1, .int .i64 (hdU b).2] := by subst h hx hy; rfl
theorem cut_list' {s : ByteArray} {a i : Nat} {m : Int} (h1 : m = ((a + i : Nat) : Int)) (h2 : a + i ≤ s.size) : (s.extract (Int.toNat (a : Int)) m.toNat).data.toList = (s.data.toList.drop a).take i := by
  subst h1
  have := cut_list (s := s) (a := a) (b := a + i) (by omega) h2
  rw [show a + i - a = i by omega] at this
  rw [Int.toNat_natCast, Int.toNat_natCast]
  exact this
theorem congr_cut {s : ByteArray} {a i : Nat} {m : Int} (h1 : m = ((a + i : Nat) : Int)) (h2 : a + i ≤ s.size) : bs ((s.data.toList.drop a).take i) = s.extract (Int.toNat (a : Int)) m.toNat := by
  rw [← cut_list' h1 h2]; exact bs_of _
end Go.Dk
end
section
set_option linter.unusedVariables false
namespace Go.Dk
open Go Go.RowKit Go.Lib
structure Ent where
  path : List Stp
  fr : Int
  to : Int
structure Idx where
  fmt : Int
  size : Int
  depth : Int
  ents : List Ent
  cols : List ByteArray
def Ens (w : World) (s : Value) (l : List Ent) : Prop := ∃ b o, SliceAt (fun b => b < w.heap.size) s l.length b o ∧ ∀ i x, l[i]? = some x → ∃ p, RowAt w b (o + i * 3) [p, .int .i64 x.fr, .int .i64 x.to] ∧ Pth w p x.path
theorem Ens.up {w w' : World} (h : Below w.heap.size w w') {s : Value} {l : List Ent} (hp : Ens w s l) : Ens w' s l := by
  obtain ⟨b, o, hs, hr⟩ := hp
  refine ⟨b, o, hs.mono fun _ hb => Nat.lt_of_lt_of_le hb h.size, fun i x hx => ?_⟩
  obtain ⟨p, h1, h2⟩ := hr i x hx
  exact ⟨p, h1.up h, h2.up h⟩
theorem Ens.form {w : World} {s : Value} {l : List Ent} (h : Ens w s l) : ∃ a c b o, s = .slice a l.length c ∧ (0 < l.length → a = some ⟨b, o, none⟩) ∧ ∀ i x, l[i]? = some x → ∃ p, RowAt w b (o + i * 3) [p, .int .i64 x.fr, .int .i64 x.to] ∧ Pth w p x.path := by
  obtain ⟨b, o, hs, hr⟩ := h
  obtain ⟨a, c, rfl, ha⟩ := hs.form
  exact ⟨a, c, b, o, rfl, ha, hr⟩
def Cls (w : World) (s : Value) (l : List ByteArray) : Prop := ∃ b o, SliceAt (fun b => b < w.heap.size) s l.length b o ∧ ∀ i x, l[i]? = some x → RowAt w b (o + i * 1) [.string x]
theorem Cls.up {w w' : World} (h : Below w.heap.size w w') {s : Value} {l : List ByteArray} (hp : Cls w s l) : Cls w' s l := by
  obtain ⟨b, o, hs, hr⟩ := hp
  exact ⟨b, o, hs.mono fun _ hb => Nat.lt_of_lt_of_le hb h.size, fun i x hx => (hr i x hx).up h⟩
theorem Cls.form {w : World} {s : Value} {l : List ByteArray} (h : Cls w s l) : ∃ a c b o, s = .slice a l.length c ∧ (0 < l.length → a = some ⟨b, o, none⟩) ∧ ∀ i x, l[i]? = some x → RowAt w b (o + i * 1) [.string x] := by
  obtain ⟨b, o, hs, hr⟩ := h
  obtain ⟨a, c, rfl, ha⟩ := hs.form
  exact ⟨a, c, b, o, rfl, ha, hr⟩
def IdxV (w : World) (x : Idx) (r : List Value) : Prop := ∃ ve vc, r = [.int .i64 x.fmt, .int .i64 x.size, .int .i64 x.depth, ve, vc] ∧ Ens w ve x.ents ∧ Cls w vc x.cols
theorem IdxV.up {w w' : World} (h : Below w.heap.size w w') {x : Idx} {r : List Value} (hp : IdxV w x r) : IdxV w' x r := by
  obtain ⟨ve, vc, e, h1, h2⟩ := hp
  exact ⟨ve, vc, e, h1.up h, h2.up h⟩
/-! ### checks -/
def Stv (s : Stp) : Prop := (s.byIndex = true → s.key = ⟨#[]⟩ ∧ 0 ≤ s.index ∧ s.index ≤ 65536) ∧ (s.byIndex = false → s.index = 0 ∧ s.key.size ≤ 1024 ∧ validD s.key.data.toList = true)
def GdP (l : List Stp) : Prop := l.length ≤ 48 ∧ ∀ s ∈ l, Stv s
theorem Stv.gds {s : Stp} (h : Stv s) : GdS s := ⟨fun hb => (h.1 hb).2, fun hb => (h.2 hb).2.1⟩
theorem Stv.vs {s : Stp} (h : Stv s) : Vs s := ⟨fun hb => ⟨(h.1 hb).1, (h.1 hb).2.1⟩, fun hb => (h.2 hb).1⟩
def colBad (c : ByteArray) : Prop := validD c.data.toList = false ∨ 1024 < c.size
open Classical in
noncomputable def colsE (l : List ByteArray) : Int := if ∃ c ∈ l, colBad c then 1 else if l.Nodup then 0 else 8
theorem colsE_1 {l : List ByteArray} {c : ByteArray} {i : Nat} (hi : l[i]? = some c) (hb : colBad c) : colsE l = 1 := by
  unfold colsE; rw [if_pos ⟨c, List.mem_of_getElem? hi, hb⟩]
theorem colsE_8 {l : List ByteArray} (hg : ∀ c ∈ l, ¬ colBad c) {c : ByteArray} {i : Nat} (hi : l[i]? = some c) (hm : c ∈ l.take i) : colsE l = 8 := by
  unfold colsE
  rw [if_neg (by rintro ⟨c, h1, h2⟩; exact hg c h1 h2), if_neg]
  intro hn
  obtain ⟨hlt, e⟩ := List.getElem?_eq_some_iff.1 hi
  have h1 : (l.take (i + 1)).Nodup := (List.take_sublist _ _).nodup hn
  rw [List.take_succ_eq_append_getElem hlt, e] at h1
  exact (List.nodup_append.1 h1).2.2 c hm c (by simp) rfl
theorem colsE_0 {l : List ByteArray} (hg : ∀ c ∈ l, ¬ colBad c) (hn : l.Nodup) : colsE l = 0 := by
  unfold colsE
  rw [if_neg (by rintro ⟨c, h1, h2⟩; exact hg c h1 h2), if_pos hn]
theorem nodup_snoc {l : List ByteArray} {i : Nat} {c : ByteArray} (hn : (l.take i).Nodup) (hi : l[i]? = some c) (hm : c ∉ l.take i) : (l.take (i + 1)).Nodup := by
  obtain ⟨hlt, e⟩ := List.getElem?_eq_some_iff.1 hi
  rw [List.take_succ_eq_append_getElem hlt, e]
  refine List.nodup_append.2 ⟨hn, by simp, ?_⟩
  intro a ha b hb hab
  obtain rfl := List.mem_singleton.1 hb
  exact hm (hab ▸ ha)
def hdrBad (x : Idx) : Prop := (x.fmt ≠ 1 ∧ x.fmt ≠ 4) ∨ x.size < 0 ∨ 1048576 < x.size ∨ x.depth < 1 ∨ 48 < x.depth ∨ (x.fmt = 1 ∧ 0 < x.cols.length)
def pthBad (x : Idx) (e : Ent) : Prop := ¬ GdP e.path ∨ e.path.length = 0 ∨ x.depth < e.path.length ∨ (x.fmt = 4 ∧ 2 < e.path.length)
def lastF (done : List Ent) : Int := match done.getLast? with | some p => p.fr | none => 0
def rngBad (x : Idx) (done : List Ent) (e : Ent) : Prop := e.fr < lastF done ∨ e.to < e.fr ∨ x.size < e.to
open Classical in
noncomputable def entE (x : Idx) (done : List Ent) (e : Ent) : Int := if pthBad x e then 21 else if rngBad x done e then 2 else if ∃ d ∈ done, d.path = e.path then 8 else 0
open Classical in
noncomputable def entsE (x : Idx) : List Ent → List Ent → Int
  | _, [] => 0
  | done, e :: r => if entE x done e ≠ 0 then entE x done e else entsE x (done ++ [e]) r
theorem entsE_skip (x : Idx) (l : List Ent) : ∀ i, i ≤ l.length → (∀ j e, j < i → l[j]? = some e → entE x (l.take j) e = 0) → entsE x [] l = entsE x (l.take i) (l.drop i)
  | 0, _, _ => by simp
  | i + 1, hi, h => by
    rw [entsE_skip x l i (by omega) fun j e hj he => h j e (by omega) he]
    have hlt : i < l.length := by omega
    have h0 := h i l[i] (by omega) (List.getElem?_eq_getElem hlt)
    rw [List.drop_eq_getElem_cons hlt]
    conv => lhs; unfold entsE
    rw [if_neg (by rw [h0]; simp), List.take_succ_eq_append_getElem hlt]
theorem entsE_at {x : Idx} {l : List Ent} {i : Nat} {e : Ent} {m : Int} (he : l[i]? = some e) (h : ∀ j e, j < i → l[j]? = some e → entE x (l.take j) e = 0) (hm : entE x (l.take i) e = m) (h0 : m ≠ 0) : entsE x [] l = m := by
  obtain ⟨hlt, e'⟩ := List.getElem?_eq_some_iff.1 he
  rw [entsE_skip x l i (by omega) h, List.drop_eq_getElem_cons hlt]
  unfold entsE
  rw [e', hm, if_pos h0]
theorem entsE_end {x : Idx} {l : List Ent} (h : ∀ j e, j < l.length → l[j]? = some e → entE x (l.take j) e = 0) : entsE x [] l = 0 := by
  rw [entsE_skip x l l.length (Nat.le_refl _) h]
  simp [entsE]
theorem entE_21 {x : Idx} {d : List Ent} {e : Ent} (h : pthBad x e) : entE x d e = 21 := by unfold entE; rw [if_pos h]
theorem entE_2 {x : Idx} {d : List Ent} {e : Ent} (h : ¬ pthBad x e) (h2 : rngBad x d e) : entE x d e = 2 := by unfold entE; rw [if_neg h, if_pos h2]
theorem entE_8 {x : Idx} {d : List Ent} {e : Ent} (h : ¬ pthBad x e) (h2 : ¬ rngBad x d e) (h3 : ∃ y ∈ d, y.path = e.path) : entE x d e = 8 := by unfold entE; rw [if_neg h, if_neg h2, if_pos h3]
theorem entE_0 {x : Idx} {d : List Ent} {e : Ent} (h : ¬ pthBad x e) (h2 : ¬ rngBad x d e) (h3 : ¬ ∃ y ∈ d, y.path = e.path) : entE x d e = 0 := by unfold entE; rw [if_neg h, if_neg h2, if_neg h3]
theorem entE_ok {x : Idx} {d : List Ent} {e : Ent} (h : entE x d e = 0) : ¬ pthBad x e ∧ ¬ rngBad x d e ∧ ¬ ∃ y ∈ d, y.path = e.path := by
  unfold entE at h
  split at h
  · simp at h
  · split at h
    · simp at h
    · split at h
      · simp at h
      · exact ⟨by assumption, by assumption, by assumption⟩
def Past (x : Idx) (l : List Ent) (i : Nat) : Prop := ∀ j e, j < i → l[j]? = some e → entE x (l.take j) e = 0
theorem Past.zero (x : Idx) (l : List Ent) : Past x l 0 := fun j e hj => by omega
theorem Past.succ {x : Idx} {l : List Ent} {i : Nat} {e : Ent} (h : Past x l i) (he : l[i]? = some e) (h0 : entE x (l.take i) e = 0) : Past x l (i + 1) := by
  intro j e' hj he'
  rcases Nat.lt_or_ge j i with h1 | h1
  · exact h j e' h1 he'
  · obtain rfl : j = i := by omega
    rw [he] at he'
    cases he'
    exact h0
theorem Past.good {x : Idx} {l : List Ent} {i : Nat} (h : Past x l i) : ∀ e ∈ l.take i, GdP e.path := by
  intro e he
  obtain ⟨j, hj⟩ := List.getElem?_of_mem he
  have hlt := (List.getElem?_eq_some_iff.1 hj).1
  simp at hlt
  rw [List.getElem?_take] at hj
  split at hj
  · have := (entE_ok (h j e (by assumption) hj)).1
    unfold pthBad at this
    exact Classical.not_not.1 fun h => this (.inl h)
  · cases hj
theorem lastF_take {l : List Ent} {i : Nat} {e : Ent} (he : l[i]? = some e) : lastF (l.take (i + 1)) = e.fr := by
  obtain ⟨hlt, e'⟩ := List.getElem?_eq_some_iff.1 he
  rw [List.take_succ_eq_append_getElem hlt, e']
  simp [lastF]
theorem lastF_0 : lastF [] = 0 := rfl
theorem Past.last {x : Idx} {l : List Ent} : ∀ {i : Nat}, Past x l i → i ≤ l.length → 0 ≤ lastF (l.take i)
  | 0, _, _ => by simp [lastF]
  | i + 1, h, hi => by
    have he : l[i]? = some l[i] := List.getElem?_eq_getElem (by omega)
    rw [lastF_take he]
    have h1 := Past.last (i := i) (fun j e hj he => h j e (by omega) he) (by omega)
    have h2 := (entE_ok (h i l[i] (by omega) he)).2.1
    unfold rngBad at h2
    omega
open Classical in
noncomputable def chkX (x : Idx) : Int := if hdrBad x then 1 else if colsE x.cols ≠ 0 then colsE x.cols else entsE x [] x.ents
theorem chkX_1 {x : Idx} (h : hdrBad x) : chkX x = 1 := by unfold chkX; rw [if_pos h]
theorem chkX_c {x : Idx} (h : ¬ hdrBad x) (h2 : colsE x.cols ≠ 0) : chkX x = colsE x.cols := by unfold chkX; rw [if_neg h, if_pos h2]
theorem chkX_e {x : Idx} (h : ¬ hdrBad x) (h2 : colsE x.cols = 0) : chkX x = entsE x [] x.ents := by unfold chkX; rw [if_neg h, if_neg (by rw [h2]; simp)]
theorem seen_iff {x : Idx} {l : List Ent} {i : Nat} {e : Ent} (h : Past x l i) (hg : GdP e.path) : bs (pathT e.path) ∈ (l.take i).map (fun y => bs (pathT y.path)) ↔ ∃ y ∈ l.take i, y.path = e.path := by
  constructor
  · intro hm
    obtain ⟨y, hy, e1⟩ := List.mem_map.1 hm
    refine ⟨y, hy, ?_⟩
    have e2 : pathT y.path = pathT e.path := by
      have := congrArg (fun b : ByteArray => b.data.toList) e1
      simpa [bs] using this
    exact path_inj (fun s hs => ((h.good y hy).2 s hs).vs) (fun s hs => (hg.2 s hs).vs) e2
  · rintro ⟨y, hy, e1⟩
    exact List.mem_map.2 ⟨y, hy, by rw [e1]⟩
end Go.Dk
end
section
set_option linter.unusedVariables false
namespace Go.Dk
open Go Go.RowKit Go.Lib
def okN (s : ByteArray) (j : Nat) : Prop := lowc (byteAt s j) ∨ (0 < j ∧ digc (byteAt s j))
def folP (s : ByteArray) (n : Nat) : Prop := n ≤ s.size ∧ (∀ j, j < n → okN s j) ∧ (n < s.size → ¬ okN s n)
theorem folP_ex (s : ByteArray) : ∃ n, folP s n := by
  by_cases h : ∃ k, k < s.size ∧ ¬ okN s k
  · obtain ⟨k, hk, hm⟩ := least_of h
    refine ⟨k, by omega, fun j hj => ?_, fun _ => hk.2⟩
    exact Classical.not_not.1 fun hn => by have := hm j ⟨by omega, hn⟩; omega
  · refine ⟨s.size, Nat.le_refl _, fun j hj => ?_, fun h => by omega⟩
    exact Classical.not_not.1 fun hn => h ⟨j, hj, hn⟩
theorem folP_uni {s : ByteArray} {m n : Nat} (h : folP s m) (h2 : folP s n) : m = n := by
  rcases Nat.lt_trichotomy m n with hl | hl | hl
  · exact absurd (h2.2.1 m hl) (h.2.2 (by have := h2.1; omega))
  · exact hl
  · exact absurd (h.2.1 n hl) (h2.2.2 (by have := h.1; omega))
noncomputable def folN (s : ByteArray) : Nat := Classical.choose (folP_ex s)
theorem folN_eq {s : ByteArray} {n : Nat} (h : folP s n) : folN s = n := folP_uni (Classical.choose_spec (folP_ex s)) h
theorem nm_iff (s : ByteArray) : (s ≠ ⟨#[]⟩ ∧ (folN s : Int) = s.size) ↔ isNm s := by
  have h := Classical.choose_spec (folP_ex s)
  change folP s (folN s) at h
  constructor
  · rintro ⟨h1, h2⟩
    have e : folN s = s.size := by omega
    refine ⟨?_, fun j hj => h.2.1 j (by omega)⟩
    rcases Nat.eq_zero_or_pos s.size with h0 | h0
    · exact absurd (ByteArray.size_eq_zero_iff.1 h0) h1
    · exact h0
  · intro hn
    refine ⟨fun e => ?_, ?_⟩
    · have := hn.1
      rw [e] at this
      exact absurd this (by decide)
    · rw [folN_eq (n := s.size) ⟨Nat.le_refl _, fun j hj => hn.2 j hj, fun h => by omega⟩]
def ldp (l : List Stp) : List UInt8 := match l with
  | s :: _ => if s.byIndex then [46] else []
  | [] => []
theorem ldp_le (l : List Stp) : (ldp l).length ≤ 1 := by
  unfold ldp
  split
  · split <;> simp
  · simp
theorem path_ldp {l : List Stp} (h : l ≠ []) : pathT l = ldp l ++ l.flatMap stpT := by
  cases l with
  | nil => exact absurd rfl h
  | cons s l => rfl
theorem step_ix {x : Stp} (h : x.byIndex = true) : stpT x = [91] ++ itoa x.index ++ [93] := by unfold stpT; rw [if_pos h]
theorem step_nm {x : Stp} (h : x.byIndex = false) (h2 : isNm x.key) : stpT x = [46] ++ x.key.data.toList := by
  unfold stpT; rw [if_neg (by rw [h]; exact Bool.noConfusion), if_pos h2]; rfl
theorem step_qt {x : Stp} (h : x.byIndex = false) (h2 : ¬ isNm x.key) : stpT x = [46] ++ ([34] ++ qtd x.key.data.toList ++ [34]) := by
  unfold stpT; rw [if_neg (by rw [h]; exact Bool.noConfusion), if_neg h2]; rfl
theorem itoa_le {n : Int} (h0 : 0 ≤ n) (h1 : n ≤ 1048576) : (itoa n).length ≤ 7 := by
  have h3 : n = ((n.toNat : Nat) : Int) := by omega
  rw [h3, itoa_nat]
  exact decDigits_len 6 n.toNat (by omega)
section
variable {w0 w : World} {L : List (Nat × Obj)} {R : List Row}
theorem ldp_T {l : List Stp} {x0 : Stp} (h : l[0]? = some x0) (hb : x0.byIndex = true) : ldp l = [46] := by
  cases l with
  | nil => simp at h
  | cons s l => simp at h; subst h; simp [ldp, hb]
theorem ldp_F {l : List Stp} {x0 : Stp} (h : l[0]? = some x0) (hb : x0.byIndex = false) : ldp l = [] := by
  cases l with
  | nil => simp at h
  | cons s l => simp at h; subst h; simp [ldp, hb]
end
end Go.Dk
namespace Go.Dk
open Go Go.RowKit Go.Lib
theorem path_pos (l : List Stp) : 0 < (pathT l).length := by
  cases l with
  | nil => simp [pathT]
  | cons s l =>
    have := step_two s
    simp only [pathT, List.flatMap_cons, List.length_append]
    omega
end Go.Dk
end
section
set_option linter.unusedVariables false
set_option linter.unusedSimpArgs false
namespace Go.Dk
open Go Go.RowKit Go.Lib
def wordsV : List Value := wrds.map fun l => .string (bs l)
theorem knd_in {k : Int} (h : ¬ (k < 0 ∨ 8 < k)) : ((knd k : Nat) : Int) = k := by
  unfold knd; rw [if_neg h]; omega
theorem knd_out {k : Int} (h : k < 0 ∨ 8 < k) : knd k = 0 := by
  unfold knd; rw [if_pos h]
theorem rep_more {l : List Lss} {i : Nat} {x : Lss} (h : l[i]? = some x) : repT (l.take (i + 1)) = repT (l.take i) ++ (pathT x.path ++ [32] ++ wrds.getD (knd x.kind) [] ++ [10]) := rep_take l i x h
section
variable {P : Program} {ops : Array Oper} {Q : Exit → Act → World → Prop} {rest : List Oper} {o : Oper} {n : Nat} {f : Nat → Value} {w w0 : World} {L : List (Nat × Obj)} {R : List Row}
theorem s_bsl9 {t e d : Nat} {x0 x1 x2 x3 x4 x5 x6 x7 x8 : Operand} {v0 v1 v2 v3 v4 v5 v6 v7 v8 a0 a1 a2 a3 a4 a5 a6 a7 a8 z : Value} (cx : Cxr w0 w L R) (ht : P.underlying t = some (.slice e)) (hs : (P.info? e).map (·.size) = some 1) (hz : Zero P e [z])
    (hg : o.guard = none) (hd : o.dst = some d) (ho : o.op = .buildSlice t 9 #[(0, x0), (1, x1), (2, x2), (3, x3), (4, x4), (5, x5), (6, x6), (7, x7), (8, x8)])
    (h0 : ev n f x0 = v0) (h1 : ev n f x1 = v1) (h2 : ev n f x2 = v2) (h3 : ev n f x3 = v3) (h4 : ev n f x4 = v4) (h5 : ev n f x5 = v5) (h6 : ev n f x6 = v6) (h7 : ev n f x7 = v7) (h8 : ev n f x8 = v8)
    (c0 : v0.cells = #[a0]) (c1 : v1.cells = #[a1]) (c2 : v2.cells = #[a2]) (c3 : v3.cells = #[a3]) (c4 : v4.cells = #[a4]) (c5 : v5.cells = #[a5]) (c6 : v6.cells = #[a6]) (c7 : v7.cells = #[a7]) (c8 : v8.cells = #[a8])
    (h : ∀ b w', Cxr w0 w' ((b, .cells ([a0, a1, a2, a3, a4, a5, a6, a7, a8] : List Value).toArray e) :: L) R → w.heap.size = b → Below w.heap.size w w' → wpList P ops Q rest (St n (upd f d (.slice (some ⟨b, 0, none⟩) 9 9))) w') : wpList P ops Q (o :: rest) (St n f) w := by
  obtain ⟨zv, hz1, hz2⟩ := hz
  refine s_new (w' := w.alloc (.cells ([a0, a1, a2, a3, a4, a5, a6, a7, a8] : List Value).toArray e)) (v := .slice (some ⟨w.heap.size, 0, none⟩) 9 9) hg hd ?_ (h _ _ (cx.alloc _) rfl ((Below.refl _ _).alloc (Nat.le_refl _) _))
  unfold execOp; rw [ho]
  have hz3 : zv.cells.size = 1 := by rw [hz2]; rfl
  have hm : (Array.range 9).map (zv.cells[· % zv.cells.size]!) = #[z, z, z, z, z, z, z, z, z] := by
    rw [hz2]
    apply Array.ext'
    rw [Array.toList_map, Array.toList_range]
    simp [List.range, List.range.loop, Nat.mod_one]
  have hfill : Instr.fill (fun i => some (i, 1)) #[z, z, z, z, z, z, z, z, z] [(0, v0), (1, v1), (2, v2), (3, v3), (4, v4), (5, v5), (6, v6), (7, v7), (8, v8)] = some #[a0, a1, a2, a3, a4, a5, a6, a7, a8] := by
    simp [Instr.fill, c0, c1, c2, c3, c4, c5, c6, c7, c8]
  simp [Instr.buildSlice, h0, h1, h2, h3, h4, h5, h6, h7, h8, run_underlying ht, run_size (w := w) hs, hz1 w, hm, hfill, newRow]
theorem words_at {m : Nat} (hm : m < 9) : wordsV[m]? = some (.string (bs (wrds.getD m []))) := by
  have h : ∀ k, k < 9 → wrds[k]? = some (wrds.getD k []) := by decide
  unfold wordsV
  rw [List.getElem?_map, h m hm]
  rfl
theorem words_cell {b t m i : Nat} (cx : Cxr w0 w L R) (hL : L[i]? = some (b, .cells wordsV.toArray t)) (hm : m < 9) : w.cell? ⟨b, 0 + ((m : Nat) : Int).toNat * 1, none⟩ = some (.string (bs (wrds.getD m []))) := by
  have h1 := cx.at i hL
  rw [cell_of_row w b _ _ t _ h1]
  simpa using words_at hm
end
end Go.Dk
end
section
set_option linter.unusedSimpArgs false
set_option linter.unusedVariables false
namespace Go.Proofs.YthlkmblljanfmaaGreatDoor
open Go Go.Dk Go.RowKit Go.Lib
attribute [local irreducible] Go.wpList Go.Code.wp Go.bodyPost Go.wpStill
theorem sz3 : (Tryz.prog.info? 3).map (·.size) = some 1 := by kernel_rfl
theorem sz4 : (Tryz.prog.info? 4).map (·.size) = some 1 := by kernel_rfl
theorem sz5 : (Tryz.prog.info? 5).map (·.size) = some 1 := by kernel_rfl
theorem sz9 : (Tryz.prog.info? 9).map (·.size) = some 1 := by kernel_rfl
theorem sz25 : (Tryz.prog.info? 25).map (·.size) = some 1 := by kernel_rfl
theorem sz46 : (Tryz.prog.info? 46).map (·.size) = some 3 := by kernel_rfl
theorem sz27 : (Tryz.prog.info? 27).map (·.size) = some 2 := by kernel_rfl
theorem sz22 : (Tryz.prog.info? 22).map (·.size) = some 1 := by kernel_rfl
theorem sz51 : (Tryz.prog.info? 51).map (·.size) = some 1 := by kernel_rfl
theorem fa46_0 : FA Tryz.prog 46 0 0 := fa_of (tt := 4) Tryz.underlying46 rfl sz4 rfl
theorem fa46_1 : FA Tryz.prog 46 1 1 := fa_of (tt := 9) Tryz.underlying46 rfl sz9 rfl
theorem fa46_2 : FA Tryz.prog 46 2 2 := fa_of (tt := 3) Tryz.underlying46 rfl sz3 rfl
theorem fa27_0 : FA Tryz.prog 27 0 0 := fa_of (tt := 3) Tryz.underlying27 rfl sz3 rfl
theorem fa27_1 : FA Tryz.prog 27 1 1 := fa_of (tt := 25) Tryz.underlying27 rfl sz25 rfl
theorem z3 : Zero Tryz.prog 3 [.int .i64 0] := zero_of (v := .int .i64 0) (by kernel_rfl) rfl
theorem ei3 : EI Tryz.prog 3 1 8 := ei_of (z := .int .i64 0) (by kernel_rfl) rfl rfl rfl
theorem z4 : Zero Tryz.prog 4 [.bool false] := zero_of (v := .bool false) (by kernel_rfl) rfl
theorem ei4 : EI Tryz.prog 4 1 1 := ei_of (z := .bool false) (by kernel_rfl) rfl rfl rfl
theorem z5 : Zero Tryz.prog 5 [.int .u8 0] := zero_of (v := .int .u8 0) (by kernel_rfl) rfl
theorem ei5 : EI Tryz.prog 5 1 1 := ei_of (z := .int .u8 0) (by kernel_rfl) rfl rfl rfl
theorem z9 : Zero Tryz.prog 9 [.string ByteArray.empty] := zero_of (v := .string ByteArray.empty) (by kernel_rfl) rfl
theorem ei9 : EI Tryz.prog 9 1 16 := ei_of (z := .string ByteArray.empty) (by kernel_rfl) rfl rfl rfl
theorem z25 : Zero Tryz.prog 25 [.slice none 0 0] := zero_of (v := .slice none 0 0) (by kernel_rfl) rfl
theorem ei25 : EI Tryz.prog 25 1 24 := ei_of (z := .slice none 0 0) (by kernel_rfl) rfl rfl rfl
theorem z46 : Zero Tryz.prog 46 [.bool false, .string ByteArray.empty, .int .i64 0] := zero_of (v := .agg #[.bool false, .string ByteArray.empty, .int .i64 0]) (by kernel_rfl) rfl
theorem ei46 : EI Tryz.prog 46 3 32 := ei_of (z := .agg #[.bool false, .string ByteArray.empty, .int .i64 0]) (by kernel_rfl) rfl rfl rfl
theorem z27 : Zero Tryz.prog 27 [.int .i64 0, .slice none 0 0] := zero_of (v := .agg #[.int .i64 0, .slice none 0 0]) (by kernel_rfl) rfl
theorem ei27 : EI Tryz.prog 27 2 32 := ei_of (z := .agg #[.int .i64 0, .slice none 0 0]) (by kernel_rfl) rfl rfl rfl
theorem z22 : Zero Tryz.prog 22 [.slice none 0 0] := zero_of (v := .slice none 0 0) (by kernel_rfl) rfl
theorem ei22 : EI Tryz.prog 22 1 24 := ei_of (z := .slice none 0 0) (by kernel_rfl) rfl rfl rfl
theorem z51 : Zero Tryz.prog 51 [.slice none 0 0] := zero_of (v := .slice none 0 0) (by kernel_rfl) rfl
theorem ei51 : EI Tryz.prog 51 1 24 := ei_of (z := .slice none 0 0) (by kernel_rfl) rfl rfl rfl
theorem ei8 : EI8 Tryz.prog 5 := ei8_of (by kernel_rfl)
theorem mixed : Tryz.prog.follows .mixedOrders = true := by kernel_rfl
theorem eqg46 : Tryz.prog.eqGuardType Tryz.prog.depth 46 = false := by kernel_rfl
theorem ne46 (a1 b1 : Bool) (a2 b2 : ByteArray) (a3 b3 : Int) (w : World) :
    (binOp .neq 46 (.agg #[.bool a1, .string a2, .int .i64 a3]) (.agg #[.bool b1, .string b2, .int .i64 b3])).run Tryz.prog w = .ok (.bool (!(a1 == b1 && (decide (a2 = b2) && a3 == b3)))) w := by
  go_simp
  by_cases h1 : a1 = b1 <;> by_cases h2 : a2 = b2 <;> by_cases h3 : a3 = b3 <;> simp [h1, h2, h3, toList_inj]
end Go.Proofs.YthlkmblljanfmaaGreatDoor
end
