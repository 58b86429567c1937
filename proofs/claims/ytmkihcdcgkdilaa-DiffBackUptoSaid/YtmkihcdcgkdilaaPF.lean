/-
  What the law DiffBack rests on: several texts in one.
-/
import Derived.WalkKit
import Derived.WalkSpells
import Derived.WalkLawsBesides
import Derived.Laws.CopyOwn
import Derived.Orders
import Derived.Test.YtmkihcdcgkdilaaRows
import Derived.Still
import GoSem.Extern.BytealgCompare
import Derived.Deep.Quiet
section
set_option linter.unusedVariables false
namespace Go.Dk
open Go Go.RowKit
def upd (f : Nat → Value) (d : Nat) (v : Value) : Nat → Value := fun i => bif Nat.beq i d then v else f i
def ofL : List Value → Nat → Value
  | [], _ => undef
  | x :: _, 0 => x
  | _ :: l, i + 1 => ofL l i
def St (n : Nat) (f : Nat → Value) : Act := ⟨Array.ofFn (n := n) fun i => f i.val, []⟩
def ev (n : Nat) (f : Nat → Value) : Operand → Value
  | .tmp t => bif Nat.blt t n then f t else undef
  | .const v => v
  | .global g => .pointer (some ⟨g, 0, none⟩)
  | .func k => .func (.func k) #[] #[]
theorem blt_iff (a b : Nat) : Nat.blt a b = decide (a < b) := by
  rw [Bool.eq_iff_iff]; simp [Nat.blt_eq]
theorem upd_eq (f : Nat → Value) (d : Nat) (v : Value) (i : Nat) : upd f d v i = if i = d then v else f i := by
  unfold upd
  cases h : Nat.beq i d
  · have h' : i ≠ d := by intro e; rw [e, Nat.beq_refl] at h; cases h
    simp [h']
  · have h' : i = d := Nat.eq_of_beq_eq_true h
    simp [h']
theorem eval_St (n : Nat) (f : Nat → Value) : (St n f).eval = ev n f := by
  funext x
  cases x with
  | tmp t =>
    show (St n f).tmps.getD t undef = bif Nat.blt t n then f t else undef
    rw [blt_iff]
    unfold St
    by_cases h : t < n <;> simp [h, Array.getD]
  | _ => rfl
theorem put_St (n : Nat) (f : Nat → Value) (d : Nat) (v : Value) : (St n f).put (some d) v = St n (upd f d v) := by
  simp only [Act.put, St]
  congr 1
  apply Array.ext
  · simp
  · intro i h1 h2
    have hi : i < n := by simpa using h2
    rw [Array.getElem_ofFn]
    simp only [upd_eq]
    by_cases hd : i = d
    · subst hd; simp
    · rw [if_neg hd, Array.getElem_setIfInBounds_ne (by simpa using hi) (Ne.symm hd), Array.getElem_ofFn]
theorem enter_St (l : List Value) (n : Nat) (h : l.length ≤ n) :
    ({ tmps := l.toArray ++ Array.replicate (n - l.toArray.size) undef, defers := [] } : Act) = St n (ofL l) := by
  have key : ∀ (l : List Value) (i : Nat), ofL l i = l.getD i undef := by
    intro l
    induction l with
    | nil => intro i; simp [ofL]
    | cons x l ih => intro i; cases i with
      | zero => simp [ofL]
      | succ i => simp [ofL, ih]
  simp only [St]
  congr 1
  apply Array.ext
  · simp; omega
  · intro i h1 h2
    simp only [Array.getElem_ofFn, key, Array.getElem_append]
    simp at h1 h2
    by_cases hi : i < l.length
    · simp [hi, List.getD]
    · simp [hi, List.getD]
def Ret (P : Program) (k : FuncId) (args : List Value) (w : World) (R : Value → World → Prop) : Prop :=
  Calls P k args.toArray w fun e w' => ∃ v, e = .returned v ∧ R v w'
theorem Ret.mono {P : Program} {k : FuncId} {args : List Value} {w : World} {R R' : Value → World → Prop} (h : Ret P k args w R) (hr : ∀ v w', R v w' → R' v w') : Ret P k args w R' :=
  Calls.mono h fun _ _ ⟨v, he, hv⟩ => ⟨v, he, hr _ _ hv⟩
theorem ret_enter {P : Program} {k : FuncId} {fn : Func} {c : Code} {l : List Value} {n : Nat} {w : World} {R : Value → World → Prop}
    (hf : P.funcs[k]? = some fn) (hb : fn.body = some c) (hn : fn.ntmps = n) (hl : Nat.ble l.length n = true)
    (h : c.wp P (bodyPost P fn fun e w' => ∃ v, e = .returned v ∧ R v w') (St n (ofL l)) w) : Ret P k l w R := by
  refine calls_of_wp hf hb ?_
  rw [hn, enter_St l n (Nat.le_of_ble_eq_true hl)]
  exact h
theorem ret_tmp {P : Program} {fn : Func} {R : Value → World → Prop} {n : Nat} {f : Nat → Value} {w : World} {t : Nat} {v : Value}
    (hr : fn.results = #[.tmp t]) (hv : ev n f (.tmp t) = v) (h : R v w) : bodyPost P fn (fun e w' => ∃ v, e = .returned v ∧ R v w') .ret (St n f) w := by
  refine ⟨rfl, v, ?_, v, rfl, h⟩
  rw [results_tmp hr]
  rw [← hv, ← eval_St]; rfl
theorem ret_tmp2 {P : Program} {fn : Func} {R : Value → World → Prop} {n : Nat} {f : Nat → Value} {w : World} {t u : Nat} {v x : Value}
    (hr : fn.results = #[.tmp t, .tmp u]) (hv : ev n f (.tmp t) = v) (hx : ev n f (.tmp u) = x) (h : R (.tuple #[v, x]) w) : bodyPost P fn (fun e w' => ∃ v, e = .returned v ∧ R v w') .ret (St n f) w := by
  refine ⟨rfl, _, ?_, _, rfl, h⟩
  rw [results_tmp2 hr]
  rw [← hv, ← hx, ← eval_St]; rfl
/-! ### one operation of a plain region -/
section
variable {P : Program} {ops : Array Oper} {Q : Exit → Act → World → Prop} {rest : List Oper} {o : Oper} {n : Nat} {f : Nat → Value} {w : World}
theorem s_run {w' : World} {v : Value} (hg : o.guard = none) (hv : (execOp (ev n f) o).run P w = .ok (.value v) w')
    (h : wpList P ops Q rest ((St n f).put o.dst v) w') : wpList P ops Q (o :: rest) (St n f) w := by
  refine wpList_plain hg fun K hK => ?_
  unfold Oper.wp
  rw [eval_St, hv]
  exact hK _ _ h
theorem s_val {v : Value} {d : Nat} (hg : o.guard = none) (hd : o.dst = some d) (hv : (execOp (ev n f) o).run P w = .ok (.value v) w)
    (h : wpList P ops Q rest (St n (upd f d v)) w) : wpList P ops Q (o :: rest) (St n f) w :=
  s_run hg hv (by rw [hd, put_St]; exact h)
theorem s_new {w' : World} {v : Value} {d : Nat} (hg : o.guard = none) (hd : o.dst = some d) (hv : (execOp (ev n f) o).run P w = .ok (.value v) w')
    (h : wpList P ops Q rest (St n (upd f d v)) w') : wpList P ops Q (o :: rest) (St n f) w :=
  s_run hg hv (by rw [hd, put_St]; exact h)
theorem s_put {w' : World} (hg : o.guard = none) (hd : o.dst = none) (hv : (execOp (ev n f) o).run P w = .ok .skip w')
    (h : wpList P ops Q rest (St n f) w') : wpList P ops Q (o :: rest) (St n f) w := by
  refine wpList_plain hg fun K hK => ?_
  unfold Oper.wp
  rw [eval_St, hv]
  refine hK _ _ ?_
  rw [hd]
  exact h
def gv (c : Bool) (v : Value) : Value := bif c then v else undef
theorem gve {c : Bool} {x v : Value} (hc : c = true) (h : x = gv c v) : x = v := by rw [h, hc]; rfl
theorem and_l {a b : Bool} (h : (a && b) = true) : a = true := by cases a <;> simp_all
attribute [irreducible] gv
def WantB (v : Value) (pol c : Bool) : Prop := (match v with | .bool b => b == pol | _ => false) = c
theorem w_tt {x : Value} {b : Bool} (h : x = .bool b) : WantB x true b := by subst h; cases b <;> rfl
theorem w_ff {x : Value} {b : Bool} (h : x = .bool b) : WantB x false (!b) := by subst h; cases b <;> rfl
theorem w_gt {x : Value} {c b : Bool} (h : x = gv c (.bool b)) : WantB x true (c && b) := by subst h; unfold gv; cases b <;> cases c <;> rfl
theorem w_gf {x : Value} {c b : Bool} (h : x = gv c (.bool b)) : WantB x false (c && !b) := by subst h; unfold gv; cases b <;> cases c <;> rfl
theorem bsl : (∀ a b : Bool, ((a && b) = true) = (a = true ∧ b = true)) ∧ (∀ a b : Bool, ((a || b) = true) = (a = true ∨ b = true)) ∧ (∀ a b : Bool, ((a && b) = false) ↔ (a = false ∨ b = false)) ∧ (∀ a b : Bool, ((a || b) = false) ↔ (a = false ∧ b = false)) ∧ (∀ b : Bool, ((!b) = true) = (b = false)) ∧ (∀ b : Bool, ((!b) = false) = (b = true)) ∧ (∀ (p : Prop) [Decidable p], (decide p = true) = p) ∧ (∀ (p : Prop) [Decidable p], (decide p = false) ↔ ¬ p) ∧
    (∀ {α : Type} [BEq α] [LawfulBEq α] (a b : α), ((a == b) = true) ↔ a = b) ∧ (∀ {α : Type} [BEq α] [LawfulBEq α] (a b : α), ((a == b) = false) ↔ a ≠ b) ∧ (∀ {α : Type} [BEq α] [LawfulBEq α] (a b : α), ((a != b) = true) ↔ a ≠ b) ∧ (∀ {α : Type} [BEq α] [LawfulBEq α] (a b : α), ((a != b) = false) ↔ a = b) ∧ (∀ {α : Type} (a b : α), (a ≠ b) = ¬ (a = b)) ∧ (∀ p : Prop, ¬ ¬ p ↔ p) :=
  ⟨fun _ _ => Bool.and_eq_true _ _, fun _ _ => Bool.or_eq_true _ _, fun _ _ => Bool.and_eq_false_iff, fun _ _ => Bool.or_eq_false_iff, fun _ => Bool.not_eq_true' _, fun _ => Bool.not_eq_false' _, fun _ _ => decide_eq_true_eq, fun _ _ => decide_eq_false_iff_not, fun _ _ => beq_iff_eq, fun _ _ => beq_eq_false_iff_ne, fun _ _ => bne_iff_ne, fun _ _ => bne_eq_false_iff_eq, fun _ _ => ne_eq _ _, fun _ => Classical.not_not⟩
theorem wF {p : Prop} (h : p := by first | exact w_ff rfl | exact w_gf rfl) : p := h
theorem wT {p : Prop} (h : p := by first | exact w_tt rfl | exact w_gt rfl) : p := h
theorem wanted_St {j dj : Nat} {pol c : Bool} (hg : o.guard = some (j, pol)) (hj : (ops[j]?).bind (·.dst) = some dj) (hc : WantB (ev n f (.tmp dj)) pol c) :
    Region.wanted o (yielded ops (St n f).tmps) = c := by
  have hy : (St n f).tmps[dj]? = if dj < n then some (f dj) else none := by
    by_cases h : dj < n <;> simp [St, h]
  unfold Region.wanted yielded
  rw [hg]
  simp only [hj, Option.bind_some, hy]
  unfold WantB at hc
  rw [← hc]
  show _ = (match (bif Nat.blt dj n then f dj else undef) with | .bool b => b == pol | _ => false)
  rw [blt_iff]
  by_cases h : dj < n
  · simp only [h, if_true, decide_true, cond_true]
    cases f dj <;> simp
  · simp only [h, if_false, decide_false, cond_false]
    simp [undef]
theorem s_gval {v : Value} {j d dj : Nat} {pol c : Bool} (hg : o.guard = some (j, pol)) (hd : o.dst = some d) (hj : (ops[j]?).bind (·.dst) = some dj) (hc : WantB (ev n f (.tmp dj)) pol c)
    (hv : c = true → (execOp (ev n f) o).run P w = .ok (.value v) w) (h : wpList P ops Q rest (St n (upd f d (gv c v))) w) : wpList P ops Q (o :: rest) (St n f) w := by
  have hw := wanted_St (o := o) (ops := ops) hg hj hc
  refine wpList_step fun K hK => ?_
  rw [hw]
  cases c with
  | true =>
    simp only [if_true]
    unfold Oper.wp
    rw [eval_St, hv rfl]
    refine hK _ _ ?_
    rw [hd, put_St]
    unfold gv at h
    exact h
  | false =>
    simp only [Bool.false_eq_true, if_false]
    refine hK _ _ ?_
    rw [hd, put_St]
    unfold gv at h
    exact h
/-! ### what operations yield -/
variable {ρ : Operand → Value} {a : Operand}
theorem v_move {x : Operand} {v : Value} (ho : o.op = .move x) (hx : ρ x = v) : (execOp ρ o).run P w = .ok (.value v) w := by
  unfold execOp; rw [ho]; simp [hx]
theorem v_assign {x : Operand} {v : Value} (ho : o.op = .assign x) (hx : ρ x = v) : (execOp ρ o).run P w = .ok (.value v) w := by
  unfold execOp; rw [ho]; simp [hx]
theorem v_or {c x y : Operand} {p q : Bool} (ho : o.op = .pick c x y) (hc : ρ c = .bool p) (hx : ρ x = .bool true) (hy : ρ y = gv (!p) (.bool q)) : (execOp ρ o).run P w = .ok (.value (.bool (p || q))) w := by
  unfold execOp; rw [ho]; simp only [hc, hx, hy, asBool]; cases p <;> simp [gv]
theorem v_and {c x y : Operand} {p q : Bool} (ho : o.op = .pick c x y) (hc : ρ c = .bool p) (hx : ρ x = gv p (.bool q)) (hy : ρ y = .bool false) : (execOp ρ o).run P w = .ok (.value (.bool (p && q))) w := by
  unfold execOp; rw [ho]; simp only [hc, hx, hy, asBool]; cases p <;> simp [gv]
theorem v_or_g {c x y : Operand} {p q g : Bool} (hg : g = true) (ho : o.op = .pick c x y) (hc : ρ c = gv g (.bool p)) (hx : ρ x = .bool true) (hy : ρ y = gv (g && !p) (.bool q)) : (execOp ρ o).run P w = .ok (.value (.bool (p || q))) w :=
  v_or ho (gve hg hc) hx (by rw [hy, hg, Bool.true_and])
theorem v_and_g {c x y : Operand} {p q g : Bool} (hg : g = true) (ho : o.op = .pick c x y) (hc : ρ c = gv g (.bool p)) (hx : ρ x = gv (g && p) (.bool q)) (hy : ρ y = .bool false) : (execOp ρ o).run P w = .ok (.value (.bool (p && q))) w :=
  v_and ho (gve hg hc) (by rw [hx, hg, Bool.true_and]) hy
theorem v_cmp {op : BinOp} {t t' : TypeId} {x y : Operand} {k : IntKind} {p q : Int} {b : Bool} (ho : o.op = .binOp op t x y t') (hx : ρ x = .int k p) (hy : ρ y = .int k q)
    (hop : (match op with | .lss => some (decide (p < q)) | .leq => some (decide (p ≤ q)) | .gtr => some (decide (q < p)) | .geq => some (decide (q ≤ p)) | .eql => some (p == q) | .neq => some (p != q) | _ => none) = some b) :
    (execOp ρ o).run P w = .ok (.value (.bool b)) w := by
  unfold execOp
  rw [ho]
  simp only [hx, hy]
  cases op <;> simp at hop <;> subst hop <;> simp [eqGuard, binOp, Op.intCmp, bne]
theorem v_add {t t' : TypeId} {x y : Operand} {p q : Int} (ho : o.op = .binOp .add t x y t') (hx : ρ x = .int .i64 p) (hy : ρ y = .int .i64 q)
    (h1 : -9223372036854775808 ≤ p + q) (h2 : p + q ≤ 9223372036854775807) : (execOp ρ o).run P w = .ok (.value (.int .i64 (p + q))) w := by
  unfold execOp
  rw [ho]
  have hw : IntKind.i64.wrap (p + q) = p + q := IntWalk.i64_in _ (by omega)
  simp [hx, hy, eqGuard, binOp, Op.intArith, hw]
theorem v_sub {t t' : TypeId} {x y : Operand} {p q : Int} (ho : o.op = .binOp .sub t x y t') (hx : ρ x = .int .i64 p) (hy : ρ y = .int .i64 q)
    (h1 : -9223372036854775808 ≤ p - q) (h2 : p - q ≤ 9223372036854775807) : (execOp ρ o).run P w = .ok (.value (.int .i64 (p - q))) w := by
  unfold execOp
  rw [ho]
  have hw : IntKind.i64.wrap (p - q) = p - q := IntWalk.i64_in _ (by omega)
  simp [hx, hy, eqGuard, binOp, Op.intArith, hw]
theorem v_mul {t t' : TypeId} {x y : Operand} {p q : Int} (ho : o.op = .binOp .mul t x y t') (hx : ρ x = .int .i64 p) (hy : ρ y = .int .i64 q)
    (h1 : -9223372036854775808 ≤ p * q) (h2 : p * q ≤ 9223372036854775807) : (execOp ρ o).run P w = .ok (.value (.int .i64 (p * q))) w := by
  unfold execOp
  rw [ho]
  have hw : IntKind.i64.wrap (p * q) = p * q := IntWalk.i64_in _ ⟨h1, h2⟩
  simp [hx, hy, eqGuard, binOp, Op.intArith, hw]
theorem v_not {t : TypeId} {x : Operand} {b : Bool} (ho : o.op = .unOp .not t x) (hx : ρ x = .bool b) : (execOp ρ o).run P w = .ok (.value (.bool (!b))) w := by
  unfold execOp
  rw [ho]
  simp [hx, Op.unary]
theorem v_extract {x : Operand} {i : Nat} {vs : Array Value} {v : Value} (ho : o.op = .extract x i) (hx : ρ x = .tuple vs) (hv : vs[i]? = some v) : (execOp ρ o).run P w = .ok (.value v) w := by
  unfold execOp
  rw [ho]
  simp [hx, Instr.extract, hv]
theorem v_lenSlice {x : Operand} {t : TypeId} {ad : Option Addr} {l c : Nat} {e : TypeId} (ho : o.op = .call { callee := .builtin .len, args := #[x], argTypes := #[t] }) (hx : ρ x = .slice ad l c) (hu : P.underlying t = some (.slice e)) :
    (execOp ρ o).run P w = .ok (.value (.int .i64 l)) w := by
  unfold execOp
  rw [ho]
  simp [resolve, hx, invoke, builtin, Builtin.len_, goInt, run_underlying hu]
theorem v_lenString {x : Operand} {t : TypeId} {s : ByteArray} (ho : o.op = .call { callee := .builtin .len, args := #[x], argTypes := #[t] }) (hx : ρ x = .string s) (hu : P.underlying t = some .string) :
    (execOp ρ o).run P w = .ok (.value (.int .i64 s.size)) w := by
  unfold execOp
  rw [ho]
  simp [resolve, hx, invoke, builtin, Builtin.len_, goInt, run_underlying hu]
theorem bytes_eq (s u : ByteArray) : (s.toList == u.toList) = decide (s = u) := by
  rw [Bool.eq_iff_iff]
  simp only [beq_iff_eq, decide_eq_true_eq, ByteArray.toList_eq]
  constructor
  · intro h; cases s; cases u; simp at h; simp [h]
  · intro h; rw [h]
theorem v_strEq {t t' : TypeId} {x y : Operand} {s u : ByteArray} (ho : o.op = .binOp .eql t x y t') (hx : ρ x = .string s) (hy : ρ y = .string u) :
    (execOp ρ o).run P w = .ok (.value (.bool (decide (s = u)))) w := by
  unfold execOp
  rw [ho]
  simp [hx, hy, eqGuard, binOp, Op.stringOp, bytes_eq]
theorem v_strNe {t t' : TypeId} {x y : Operand} {s u : ByteArray} (ho : o.op = .binOp .neq t x y t') (hx : ρ x = .string s) (hy : ρ y = .string u) :
    (execOp ρ o).run P w = .ok (.value (.bool (!decide (s = u)))) w := by
  unfold execOp
  rw [ho]
  simp [hx, hy, eqGuard, binOp, Op.stringOp, bytes_eq]
/-! ### memory -/
def RowAt (w : World) (b o : Nat) (l : List Value) : Prop := ∀ j x, l[j]? = some x → w.cell? ⟨b, o + j, none⟩ = some x
theorem RowAt.cell {b i : Nat} {l : List Value} {x : Value} (h : RowAt w b i l) (j : Nat) (hj : l[j]? = some x) : w.cell? ⟨b, i + j, none⟩ = some x := h j x hj
theorem add_addr (b i j : Nat) : (⟨b, i, none⟩ : Addr).add j = ⟨b, i + j, none⟩ := by
  unfold Addr.add
  split
  · rename_i h; subst h; rfl
  · rfl
def aggD : TypeDesc → Bool
  | .struct _ | .array _ _ => true
  | _ => false
theorem run_isAgg {t : TypeId} {d : TypeDesc} (hu : P.underlying t = some d) : (isAgg t).run P w = .ok (aggD d) w := by
  unfold isAgg
  rw [Sem.run_bind, run_underlying hu w]
  cases d <;> rfl
theorem run_size {t : TypeId} {k : Nat} (hs : (P.info? t).map (·.size) = some k) : (sizeOf t).run P w = .ok k w := by
  cases h : P.info? t with
  | none => simp [h] at hs
  | some i => simp [h] at hs; simp [sizeOf, typeInfo, h, hs]
theorem v_load1 {x : Operand} {t : TypeId} {d : TypeDesc} {b i : Nat} {v : Value} (ho : o.op = .load t x) (hx : ρ x = .pointer (some ⟨b, i, none⟩)) (hu : P.underlying t = some d) (hd : aggD d = false)
    (hc : w.cell? ⟨b, i, none⟩ = some v) : (execOp ρ o).run P w = .ok (.value v) w := by
  unfold execOp
  rw [ho]
  simp [hx, Instr.loadAt, Instr.sureAddr, loadVar, run_isAgg (w := w) hu, hd, hc]
theorem v_load {x : Operand} {t : TypeId} {d : TypeDesc} {b i : Nat} {l : List Value} (ho : o.op = .load t x) (hx : ρ x = .pointer (some ⟨b, i, none⟩)) (hu : P.underlying t = some d) (hd : aggD d = true)
    {k : Nat} (hs : (P.info? t).map (·.size) = some k) (hc : RowAt w b i l) (hk : l.length = k) : (execOp ρ o).run P w = .ok (.value (.agg l.toArray)) w := by
  unfold execOp
  rw [ho]
  subst hk
  have hl := run_loadCells_list (P := P) w ⟨b, i, none⟩ l (fun j v hv => by rw [add_addr]; exact hc j v hv)
  simp [hx, Instr.loadAt, Instr.sureAddr, loadVar, run_isAgg (w := w) hu, hd, run_size (w := w) hs, hl]
def FA (P : Program) (t : TypeId) (i off : Nat) : Prop := ∀ (b k : Nat) (w : World), (Instr.fieldAt t (.pointer (some ⟨b, k, none⟩)) i).run P w = .ok (.pointer (some ⟨b, k + off, none⟩)) w
theorem fa_of {t : TypeId} {i s tt off : Nat} {fs : Array Field} (hu : P.underlying t = some (.struct fs)) (hf : (fs[i]?).map (fun f => (f.type, f.offset)) = some (tt, off)) (hs : (P.info? tt).map (·.size) = some s) (h0 : Nat.blt 0 s = true) : FA P t i off := by
  intro b k w
  have h0' : s ≠ 0 := by intro e; subst e; cases h0
  cases hq : fs[i]? with
  | none => simp [hq] at hf
  | some fl =>
    simp only [hq, Option.map_some, Option.some.injEq, Prod.mk.injEq] at hf
    obtain ⟨rfl, rfl⟩ := hf
    simp [Instr.fieldAt, run_underlying hu, hq, Instr.sureAddr, fieldPlace, run_size (w := w) hs, add_addr, h0']
theorem v_fa {x : Operand} {t : TypeId} {i off b k : Nat} (h : FA P t i off) (ho : o.op = .fieldAddr t x i) (hx : ρ x = .pointer (some ⟨b, k, none⟩)) :
    (execOp ρ o).run P w = .ok (.value (.pointer (some ⟨b, k + off, none⟩))) w := by
  unfold execOp
  rw [ho]
  simp [hx, h b k w]
theorem v_ia {x ix : Operand} {t e : TypeId} {s b k len cap : Nat} {m : Int} {kd : IntKind} (hu : P.underlying t = some (.slice e)) (hs : (P.info? e).map (·.size) = some s) (ho : o.op = .indexAddr t x ix)
    (hx : ρ x = .slice (some ⟨b, k, none⟩) len cap) (hi : ρ ix = .int kd m) (h0 : 0 ≤ m) (h1 : m < len) :
    (execOp ρ o).run P w = .ok (.value (.pointer (some ⟨b, k + m.toNat * s, none⟩))) w := by
  unfold execOp
  rw [ho]
  simp [hx, hi, Instr.indexAt, run_underlying hu, asIntOf, h0, h1, run_size (w := w) hs, add_addr]
end
/-! ### memory of the call's own -/
structure Row where
  e : Nat
  size : Nat
  v : Value
  n : Nat
  xs : List Value
structure Cxr (w0 w : World) (L : List (Nat × Obj)) (R : List Row) : Prop where
  ext : Below w0.heap.size w0 w
  own : ∀ p ∈ L, w.heap[p.1]? = some p.2
  lo : ∀ p ∈ L, w0.heap.size ≤ p.1
  nd : (L.map (·.1)).Nodup
  rows : ∀ r ∈ R, w.ownsRow w0.heap.size r.e r.size r.v r.n r.xs
  off : ∀ r ∈ R, ∀ k, r.v.ownBlock = some k → k ∉ L.map (·.1)
  pw : R.Pairwise fun r s => ∀ k, r.v.ownBlock = some k → s.v.ownBlock ≠ some k
abbrev Ctx (w0 w : World) (L : List (Nat × Obj)) : Prop := Cxr w0 w L []
theorem Ctx.start (w : World) : Ctx w w [] := ⟨Below.refl _ _, by simp, by simp, by simp, by simp, by simp, by simp⟩
section
variable {w0 w w' : World} {L : List (Nat × Obj)} {R : List Row}
theorem Cxr.lt (h : Cxr w0 w L R) : ∀ p ∈ L, p.1 < w.heap.size := by
  intro p hp
  have := h.own p hp
  rcases Nat.lt_or_ge p.1 w.heap.size with h' | h'
  · exact h'
  · simp [Array.getElem?_eq_none h'] at this
theorem Cxr.at (h : Cxr w0 w L R) (i : Nat) {b : Nat} {o : Obj} (hi : L[i]? = some (b, o)) : w.heap[b]? = some o :=
  h.own (b, o) (List.mem_of_getElem? hi)
theorem Cxr.row (h : Cxr w0 w L R) (i : Nat) {b : Nat} {l : List Value} {t : TypeId} {fr : Nat × Nat} (hi : L[i]? = some (b, .cells l.toArray t fr)) : RowAt w b 0 l := by
  intro j x hj
  have := h.at i hi
  rw [cell_of_row w b (0 + j) _ t fr this]
  simpa using hj
theorem Cxr.cell (h : Cxr w0 w L R) (i : Nat) {b j : Nat} {cs : Array Value} {x : Value} {t : TypeId} {fr : Nat × Nat} (hi : L[i]? = some (b, .cells cs t fr)) (hj : cs.toList[j]? = some x) : w.cell? ⟨b, j, none⟩ = some x := by
  have := h.at i hi
  rw [cell_of_row w b j _ t fr this]
  simpa using hj
theorem mem_map_drop {k : Nat} {x : Nat} (h : x ∈ (L.drop k).map (·.1)) : x ∈ L.map (·.1) := by
  obtain ⟨p, hp, rfl⟩ := List.mem_map.1 h
  exact List.mem_map.2 ⟨p, List.mem_of_mem_drop hp, rfl⟩
theorem Cxr.drop (h : Cxr w0 w L R) (k : Nat) : Cxr w0 w (L.drop k) R :=
  ⟨h.ext, fun p hp => h.own p (List.mem_of_mem_drop hp), fun p hp => h.lo p (List.mem_of_mem_drop hp), by
    rw [List.map_drop]; exact (List.drop_sublist k _).nodup h.nd, h.rows, fun r hr k' hk hm => h.off r hr k' hk (mem_map_drop hm), h.pw⟩
theorem Cxr.dropR (h : Cxr w0 w L R) (k : Nat) : Cxr w0 w L (R.drop k) :=
  ⟨h.ext, h.own, h.lo, h.nd, fun r hr => h.rows r (List.mem_of_mem_drop hr), fun r hr => h.off r (List.mem_of_mem_drop hr), h.pw.sublist (List.drop_sublist k R)⟩
theorem Cxr.row_keep {r : Row} (h : Cxr w0 w L R) (hr : r ∈ R) (ho : w'.os = w.os) (ht : w'.tape = w.tape) (hu : w'.output = w.output) (hs : w.heap.size ≤ w'.heap.size) (hk : ∀ k, k < w.heap.size → r.v.ownBlock = some k → w'.heap[k]? = w.heap[k]?) :
    w'.ownsRow w0.heap.size r.e r.size r.v r.n r.xs := by
  have hrow := h.rows r hr
  refine ⟨hrow.1, ?_⟩
  rcases hrow.2 with hn | ⟨g, cap, cur, hv, hb, hg, rest⟩
  · exact .inl hn
  · refine .inr ⟨g, cap, cur, hv, hb, ?_, rest⟩
    rw [hk g (Array.getElem?_eq_some_iff.1 hg).1 (by rw [hv]; rfl)]
    exact hg
theorem Cxr.call (h : Cxr w0 w L R) (hb : Below w.heap.size w w') : Cxr w0 w' L R :=
  ⟨h.ext.trans (hb.mono h.ext.size), fun p hp => by rw [hb.block p.1 (h.lt p hp)]; exact h.own p hp, h.lo, h.nd,
   fun r hr => h.row_keep hr hb.os hb.tape hb.output hb.size fun k hk _ => hb.block k hk, h.off, h.pw⟩
theorem Cxr.draw (h : Cxr w0 w L R) : Cxr w0 w.drew L R := h.call ⟨rfl, rfl, rfl, Nat.le_refl _, fun _ _ => rfl⟩
theorem Cxr.alloc (h : Cxr w0 w L R) (o : Obj) : Cxr w0 (w.alloc o) ((w.heap.size, o) :: L) R := by
  refine ⟨h.ext.alloc h.ext.size o, ?_, ?_, ?_, ?_, ?_, h.pw⟩
  · intro p hp
    rcases List.mem_cons.1 hp with rfl | hp
    · exact heap_alloc_new w o
    · rw [Below.heap_alloc w o p.1 (h.lt p hp)]; exact h.own p hp
  · intro p hp
    rcases List.mem_cons.1 hp with rfl | hp
    · exact h.ext.size
    · exact h.lo p hp
  · simp only [List.map_cons, List.nodup_cons]
    refine ⟨fun hm => ?_, h.nd⟩
    obtain ⟨p, hp, he⟩ := List.mem_map.1 hm
    have := h.lt p hp
    omega
  · intro r hr
    exact (h.rows r hr).alloc o
  · intro r hr k hk hm
    simp only [List.map_cons, List.mem_cons] at hm
    rcases hm with rfl | hm
    · have := ((h.rows r hr).lt _ hk).2; omega
    · exact h.off r hr k hk hm
theorem Cxr.turn (h : Cxr w0 w L R) (i : Nat) {b : Nat} {o o' : Obj} (hi : L[i]? = some (b, o)) (hos : w'.os = w.os) (ht : w'.tape = w.tape) (hou : w'.output = w.output)
    (hsz : w.heap.size ≤ w'.heap.size) (hb : w'.heap[b]? = some o') (hoth : ∀ k, k < w.heap.size → k ≠ b → w'.heap[k]? = w.heap[k]?) : Cxr w0 w' (L.set i (b, o')) R := by
  have hmem := List.mem_of_getElem? hi
  have hlo := h.lo _ hmem
  have hmap : (L.set i (b, o')).map (·.1) = L.map (·.1) := by
    apply List.ext_getElem?
    intro j
    simp only [List.getElem?_map, List.getElem?_set]
    split
    · rename_i he; subst he; simp [hi]; exact (List.getElem?_eq_some_iff.1 hi).1
    · rfl
  refine ⟨h.ext.trans ⟨hos, ht, hou, hsz, fun k hk => hoth k (Nat.lt_of_lt_of_le hk h.ext.size) (by simp at hlo; omega)⟩, ?_, ?_, ?_, ?_, ?_, h.pw⟩
  · intro p hp
    obtain ⟨j, hj⟩ := List.getElem?_of_mem hp
    rw [List.getElem?_set] at hj
    split at hj
    · split at hj
      · cases hj; exact hb
      · cases hj
    · rename_i hne
      have hp' := List.mem_of_getElem? hj
      rw [hoth p.1 (h.lt p hp') (fun he => ?_)]
      · exact h.own p hp'
      · have h1 : (L.map (·.1))[i]? = some b := by simp [hi]
        have h2 : (L.map (·.1))[j]? = some b := by simp [hj, he]
        have hlt : i < (L.map (·.1)).length := (List.getElem?_eq_some_iff.1 h1).1
        exact hne ((List.getElem?_inj hlt h.nd).1 (h1.trans h2.symm))
  · intro p hp
    rcases List.mem_or_eq_of_mem_set hp with hp | hp
    · exact h.lo p hp
    · subst hp; exact hlo
  · rw [hmap]; exact h.nd
  · intro r hr
    refine h.row_keep hr hos ht hou hsz fun k hk hv => hoth k hk fun e => ?_
    subst e
    exact h.off r hr _ hv (List.mem_map.2 ⟨_, hmem, rfl⟩)
  · intro r hr k hk hm
    rw [hmap] at hm
    exact h.off r hr k hk hm
theorem Cxr.nilRow (h : Cxr w0 w L R) (e size : Nat) : Cxr w0 w L (⟨e, size, .slice none 0 0, 0, []⟩ :: R) :=
  ⟨h.ext, h.own, h.lo, h.nd, fun r hr => by
    rcases List.mem_cons.1 hr with rfl | hr
    · exact World.ownsRow_nil _ _ _ _
    · exact h.rows r hr, fun r hr k hk => by
    rcases List.mem_cons.1 hr with rfl | hr
    · simp [Value.ownBlock] at hk
    · exact h.off r hr k hk, List.pairwise_cons.2 ⟨fun r _ k hk => by simp [Value.ownBlock] at hk, h.pw⟩⟩
theorem Cxr.addRow (h : Cxr w0 w L R) (r : Row) (hrow : w.ownsRow w0.heap.size r.e r.size r.v r.n r.xs) (hoff : ∀ k, r.v.ownBlock = some k → k ∉ L.map (·.1)) (hr : ∀ s ∈ R, ∀ k, r.v.ownBlock = some k → s.v.ownBlock ≠ some k) : Cxr w0 w L (r :: R) :=
  ⟨h.ext, h.own, h.lo, h.nd, fun s hs => by
    rcases List.mem_cons.1 hs with rfl | hs
    · exact hrow
    · exact h.rows s hs, fun s hs => by
    rcases List.mem_cons.1 hs with rfl | hs
    · exact hoff
    · exact h.off s hs, List.pairwise_cons.2 ⟨hr, h.pw⟩⟩
theorem Cxr.callRow (h : Cxr w0 w L R) (hb : Below w.heap.size w w') {e size n : Nat} {v : Value} {xs : List Value} (hrow : w'.ownsRow w.heap.size e size v n xs) : Cxr w0 w' L (⟨e, size, v, n, xs⟩ :: R) := by
  refine (h.call hb).addRow _ ⟨hrow.1, ?_⟩ ?_ ?_
  · rcases hrow.2 with h2 | ⟨g, cap, cur, h1, h2, h3⟩
    · exact .inl h2
    · exact .inr ⟨g, cap, cur, h1, Nat.le_trans h.ext.size h2, h3⟩
  · intro k hk hm
    obtain ⟨p, hp, rfl⟩ := List.mem_map.1 hm
    have h1 := (hrow.lt _ hk).1
    have h2 := h.lt p hp
    omega
  · intro s hs k hk hk'
    have h1 := (hrow.lt _ hk).1
    have h2 := ((h.rows s hs).lt _ hk').2
    omega
theorem Cxr.toRow {b e size k : Nat} {cs : List Value} (h : Cxr w0 w ((b, .cells cs.toArray e) :: L) R) (hl : cs.length = k * size) (hk : k ≤ maxLen) : Cxr w0 w L (⟨e, size, .slice (some ⟨b, 0, none⟩) k k, k, cs⟩ :: R) := by
  refine (h.drop 1).addRow _ ⟨hl, .inr ⟨b, k, cs.toArray, rfl, h.lo (b, .cells cs.toArray e) (by simp), h.own (b, .cells cs.toArray e) (by simp), Nat.le_refl _, hk, by simpa using hl, ?_⟩⟩ ?_ ?_
  · simp [← hl]
  · intro q hq
    simp only [Value.ownBlock, Option.some.injEq] at hq
    subst hq
    have := h.nd
    simp only [List.map_cons, List.nodup_cons] at this
    exact this.1
  · intro s hs q hq hq'
    simp only [Value.ownBlock, Option.some.injEq] at hq
    subst hq
    exact h.off s hs _ hq' (by simp)
end
section
variable {P : Program} {ops : Array Oper} {Q : Exit → Act → World → Prop} {rest : List Oper} {o : Oper} {n : Nat} {f : Nat → Value} {w w0 : World} {L : List (Nat × Obj)} {R : List Row}
theorem run_box (t : TypeId) (v : Value) : (Instr.box t v).run P w = .ok (.pointer (some ⟨w.heap.size, 0, none⟩)) (w.alloc (.cells v.cells t)) := by
  simp [Instr.box, newVar, newRow]
theorem s_box {d : Nat} {t : TypeId} {x : Operand} {v : Value} {cs : List Value} (cx : Cxr w0 w L R) (hg : o.guard = none) (hd : o.dst = some d) (ho : o.op = .box t x) (hx : ev n f x = v) (hv : v.cells = cs.toArray)
    (h : ∀ b w', Cxr w0 w' ((b, .cells cs.toArray t) :: L) R → w.heap.size = b → Below w.heap.size w w' → wpList P ops Q rest (St n (upd f d (.pointer (some ⟨b, 0, none⟩)))) w') : wpList P ops Q (o :: rest) (St n f) w := by
  refine s_new (w' := w.alloc (.cells v.cells t)) (v := .pointer (some ⟨w.heap.size, 0, none⟩)) hg hd ?_ ?_
  · unfold execOp; rw [ho]; simp [hx, run_box]
  · rw [hv]; exact h _ _ (cx.alloc _) rfl ((Below.refl _ _).alloc (Nat.le_refl _) _)
def Zero (P : Program) (t : TypeId) (l : List Value) : Prop := ∃ v, (∀ w, (zeroValue t).run P w = .ok v w) ∧ v.cells = l.toArray
theorem zero_of {t : TypeId} {v : Value} {l : List Value} (h : (P.info? t).map (·.zero) = some (some v)) (hl : v.cells = l.toArray) : Zero P t l := by
  refine ⟨v, fun w => ?_, hl⟩
  cases hi : P.info? t with
  | none => simp [hi] at h
  | some i => simp [hi] at h; simp [zeroValue, typeInfo, hi, h]
theorem s_alloc {d : Nat} {t : TypeId} {cs : List Value} (cx : Cxr w0 w L R) (hz : Zero P t cs) (hg : o.guard = none) (hd : o.dst = some d) (ho : o.op = .alloc t)
    (h : ∀ b w', Cxr w0 w' ((b, .cells cs.toArray t) :: L) R → w.heap.size = b → Below w.heap.size w w' → wpList P ops Q rest (St n (upd f d (.pointer (some ⟨b, 0, none⟩)))) w') : wpList P ops Q (o :: rest) (St n f) w := by
  obtain ⟨v, hv, hl⟩ := hz
  refine s_new (w' := w.alloc (.cells v.cells t)) (v := .pointer (some ⟨w.heap.size, 0, none⟩)) hg hd ?_ ?_
  · unfold execOp; rw [ho]; simp [Instr.alloc, hv w, newVar, newRow]
  · rw [hl]; exact h _ _ (cx.alloc _) rfl ((Below.refl _ _).alloc (Nat.le_refl _) _)
theorem setRow_ctx {b : Nat} {old new : Array Value} {t : TypeId} (cx : Cxr w0 w L R) (i : Nat) (hi : L[i]? = some (b, .cells old t)) : Cxr w0 (w.setRow b new) (L.set i (b, .cells new t)) R := by
  have hb := cx.at i hi
  refine cx.turn i hi rfl rfl rfl (by simp) (setRow_heap w b old new t _ hb) fun k _ hne => setRow_other w b k new hne
theorem s_call {d k : Nat} {az : Array Operand} {ats : Array TypeId} {fn : Func} {args : List Value} {R : Value → World → Prop} (hc : Ret P k args w R) (hf : P.funcs[k]? = some fn) (hb : fn.body.isNone = false) (hn : (fn.name == "runtime.NumGoroutine") = false)
    (hg : o.guard = none) (hd : o.dst = some d) (ho : o.op = .call { callee := .value (.func k), args := az, argTypes := ats }) (hargs : az.toList.map (ev n f) = args)
    (h : ∀ v w', R v w' → wpList P ops Q rest (St n (upd f d v)) w') : wpList P ops Q (o :: rest) (St n f) w := by
  refine wpList_plain hg fun K hK => ?_
  have hrun : (execOp (ev n f) o).run P w = .ok (.enter k args.toArray) w := by
    have h1 : fn.name ≠ "runtime.NumGoroutine" := by simpa using hn
    have h2 : ¬ fn.body = none := by intro e; simp [e] at hb
    unfold execOp; rw [ho]
    have e : az.map (ev n f) = args.toArray := by rw [← hargs]; apply Array.ext'; simp
    simp [resolve, e, ev, Deferred.ofValue, invoke, callFunc, hf, h1, h2]
  unfold Oper.wp
  rw [eval_St, hrun]
  refine Calls.mono hc ?_
  rintro e w' ⟨v, rfl, hv⟩
  show K ((St n f).put o.dst v) w'
  refine hK _ _ ?_
  rw [hd, put_St]
  exact h v w' hv
end
theorem least_of {p : Nat → Prop} (h : ∃ k, p k) : ∃ k, p k ∧ ∀ j, p j → k ≤ j := by
  classical
  obtain ⟨k, hk⟩ := h
  induction k using Nat.strongRecOn with
  | _ k ih =>
    by_cases hj : ∃ j, j < k ∧ p j
    · obtain ⟨j, hlt, hp⟩ := hj
      exact ih j hlt hp
    · exact ⟨k, hk, fun j hp => Nat.le_of_not_lt fun hlt => hj ⟨j, hlt, hp⟩⟩
theorem w_loop {P : Program} {c : Code} {Q : Exit → Act → World → Prop} {n : Nat} {f : Nat → Value} {w : World} (J : Nat → (Nat → Value) → World → Prop) (k0 : Nat) (h0 : J k0 f w)
    (round : ∀ k f w, J k f w → c.wp P (Exit.then (fun a' w' => ∃ k' f', k' < k ∧ a' = St n f' ∧ J k' f' w') Q) (St n f) w) : (Code.loop c).wp P Q (St n f) w := by
  classical
  let ok : Act → World → Nat → Prop := fun a w k => ∃ f', a = St n f' ∧ J k f' w
  let least : Act → World → Nat := fun a w => if h : ∃ k, ok a w k then Classical.choose (least_of h) else 0
  refine wp_loop (fun a w => ∃ k, ok a w k) least ⟨k0, f, rfl, h0⟩ ?_
  intro a w hI
  have hl := Classical.choose_spec (least_of hI)
  have hle : least a w = Classical.choose (least_of hI) := dif_pos hI
  obtain ⟨f1, ha, hJ⟩ := hl.1
  subst ha
  refine wp_mono (round _ f1 w hJ) ?_
  intro e a' w' hq
  cases e with
  | normal =>
    obtain ⟨k', f', hlt, ha', hJ'⟩ := hq
    have hI' : ∃ k, ok a' w' k := ⟨k', f', ha', hJ'⟩
    refine ⟨hI', ?_⟩
    rw [hle]
    have hl' := Classical.choose_spec (least_of hI')
    have hle' : least a' w' = Classical.choose (least_of hI') := dif_pos hI'
    rw [hle']
    exact Nat.lt_of_le_of_lt (hl'.2 k' ⟨f', ha', hJ'⟩) hlt
  | _ => exact hq
end Go.Dk
end
section
namespace Go.Dk
open Go Go.RowKit
def Fc (P : Program) (k : FuncId) (args : List Value) (w : World) (R : Value → World → Prop) : Prop :=
  Ret P k args w fun v w' => Below w.heap.size w w' ∧ R v w'
theorem Fc.mono {P : Program} {k : FuncId} {args : List Value} {w : World} {R R' : Value → World → Prop} (h : Fc P k args w R) (hr : ∀ v w', Below w.heap.size w w' → R v w' → R' v w') : Fc P k args w R' :=
  Ret.mono h fun v w' ⟨a, b⟩ => ⟨a, hr v w' a b⟩
section
variable {P : Program} {ops : Array Oper} {Q : Exit → Act → World → Prop} {rest : List Oper} {o : Oper} {n : Nat} {f : Nat → Value} {w w0 : World} {L : List (Nat × Obj)} {R : List Row} {ρ : Operand → Value}
theorem run_callOp {k : Nat} {az : Array Operand} {ats : Array TypeId} {fn : Func} {args : List Value} (hf : P.funcs[k]? = some fn) (hb : fn.body.isNone = false) (hn : (fn.name == "runtime.NumGoroutine") = false)
    (ho : o.op = .call { callee := .value (.func k), args := az, argTypes := ats }) (hargs : az.toList.map (ev n f) = args) : (execOp (ev n f) o).run P w = .ok (.enter k args.toArray) w := by
  have h1 : fn.name ≠ "runtime.NumGoroutine" := by simpa using hn
  have h2 : ¬ fn.body = none := by intro e; simp [e] at hb
  unfold execOp; rw [ho]
  have e : az.map (ev n f) = args.toArray := by rw [← hargs]; apply Array.ext'; simp
  simp [resolve, e, ev, Deferred.ofValue, invoke, callFunc, hf, h1, h2]
theorem s_fn {d k : Nat} {az : Array Operand} {ats : Array TypeId} {fn : Func} {args : List Value} {T : Value → World → Prop} (cx : Cxr w0 w L R) (hc : Fc P k args w T) (hf : P.funcs[k]? = some fn) (hb : fn.body.isNone = false) (hn : (fn.name == "runtime.NumGoroutine") = false)
    (hg : o.guard = none) (hd : o.dst = some d) (ho : o.op = .call { callee := .value (.func k), args := az, argTypes := ats }) (hargs : az.toList.map (ev n f) = args)
    (h : ∀ v w', Cxr w0 w' L R → Below w.heap.size w w' → T v w' → wpList P ops Q rest (St n (upd f d v)) w') : wpList P ops Q (o :: rest) (St n f) w :=
  s_call hc hf hb hn hg hd ho hargs fun v w' ⟨hw, hr⟩ => h v w' (cx.call hw) hw hr
theorem s_gfn {d j dj k : Nat} {pol c : Bool} {az : Array Operand} {ats : Array TypeId} {fn : Func} {args : List Value} {T : Value → World → Prop} (cx : Cxr w0 w L R) (hg : o.guard = some (j, pol)) (hd : o.dst = some d) (hj : (ops[j]?).bind (·.dst) = some dj) (hw : WantB (ev n f (.tmp dj)) pol c)
    (hc : c = true → Fc P k args w T) (hf : P.funcs[k]? = some fn) (hb : fn.body.isNone = false) (hn : (fn.name == "runtime.NumGoroutine") = false)
    (ho : o.op = .call { callee := .value (.func k), args := az, argTypes := ats }) (hargs : c = true → az.toList.map (ev n f) = args)
    (h : ∀ v w', Cxr w0 w' L R → Below w.heap.size w w' → (c = true → T v w') → wpList P ops Q rest (St n (upd f d (gv c v))) w') : wpList P ops Q (o :: rest) (St n f) w := by
  have hwant := wanted_St (o := o) (ops := ops) hg hj hw
  refine wpList_step fun K hK => ?_
  rw [hwant]
  cases c with
  | true =>
    simp only [if_true]
    unfold Oper.wp
    rw [eval_St, run_callOp hf hb hn ho (hargs rfl)]
    refine Calls.mono (hc rfl) ?_
    rintro e w' ⟨v, rfl, hbel, hr⟩
    show K ((St n f).put o.dst v) w'
    refine hK _ _ ?_
    rw [hd, put_St]
    have h := h v w' (cx.call hbel) hbel fun _ => hr
    unfold gv at h
    exact h
  | false =>
    simp only [Bool.false_eq_true, if_false]
    refine hK _ _ ?_
    rw [hd, put_St]
    have h := h undef w cx (Below.refl _ _) (fun e => by cases e)
    unfold gv at h
    exact h
def IsB (p : Bool → Prop) (v : Value) (_ : World) : Prop := ∃ b, v = .bool b ∧ p b
def IsI (p : Int → Prop) (v : Value) (_ : World) : Prop := ∃ m, v = .int .i64 m ∧ p m
theorem s_fnB {d k : Nat} {az : Array Operand} {ats : Array TypeId} {fn : Func} {args : List Value} {p : Bool → Prop} (cx : Cxr w0 w L R) (hc : Fc P k args w (IsB p)) (hf : P.funcs[k]? = some fn) (hb : fn.body.isNone = false) (hn : (fn.name == "runtime.NumGoroutine") = false)
    (hg : o.guard = none) (hd : o.dst = some d) (ho : o.op = .call { callee := .value (.func k), args := az, argTypes := ats }) (hargs : az.toList.map (ev n f) = args)
    (h : ∀ b w', Cxr w0 w' L R → Below w.heap.size w w' → p b → wpList P ops Q rest (St n (upd f d (.bool b))) w') : wpList P ops Q (o :: rest) (St n f) w :=
  s_fn cx hc hf hb hn hg hd ho hargs fun v w' hcx hw ⟨b, hv, hp⟩ => by subst hv; exact h b w' hcx hw hp
theorem s_fnI {d k : Nat} {az : Array Operand} {ats : Array TypeId} {fn : Func} {args : List Value} {p : Int → Prop} (cx : Cxr w0 w L R) (hc : Fc P k args w (IsI p)) (hf : P.funcs[k]? = some fn) (hb : fn.body.isNone = false) (hn : (fn.name == "runtime.NumGoroutine") = false)
    (hg : o.guard = none) (hd : o.dst = some d) (ho : o.op = .call { callee := .value (.func k), args := az, argTypes := ats }) (hargs : az.toList.map (ev n f) = args)
    (h : ∀ m w', Cxr w0 w' L R → Below w.heap.size w w' → p m → wpList P ops Q rest (St n (upd f d (.int .i64 m))) w') : wpList P ops Q (o :: rest) (St n f) w :=
  s_fn cx hc hf hb hn hg hd ho hargs fun v w' hcx hw ⟨b, hv, hp⟩ => by subst hv; exact h b w' hcx hw hp
theorem s_gfnB {d j dj k : Nat} {pol c : Bool} {az : Array Operand} {ats : Array TypeId} {fn : Func} {args : List Value} {p : Bool → Prop} (cx : Cxr w0 w L R) (hg : o.guard = some (j, pol)) (hd : o.dst = some d) (hj : (ops[j]?).bind (·.dst) = some dj) (hw : WantB (ev n f (.tmp dj)) pol c)
    (hc : c = true → Fc P k args w (IsB p)) (hf : P.funcs[k]? = some fn) (hb : fn.body.isNone = false) (hn : (fn.name == "runtime.NumGoroutine") = false)
    (ho : o.op = .call { callee := .value (.func k), args := az, argTypes := ats }) (hargs : c = true → az.toList.map (ev n f) = args)
    (h : ∀ b w', Cxr w0 w' L R → Below w.heap.size w w' → (c = true → p b) → wpList P ops Q rest (St n (upd f d (gv c (.bool b)))) w') : wpList P ops Q (o :: rest) (St n f) w := by
  refine s_gfn cx hg hd hj hw hc hf hb hn ho hargs fun v w' hcx hbel hr => ?_
  cases c with
  | true =>
    obtain ⟨b, rfl, hp⟩ := hr rfl
    exact h b w' hcx hbel fun _ => hp
  | false =>
    have h := h false w' hcx hbel fun e => by cases e
    unfold gv at h ⊢
    exact h
theorem s_gfnI {d j dj k : Nat} {pol c : Bool} {az : Array Operand} {ats : Array TypeId} {fn : Func} {args : List Value} {p : Int → Prop} (cx : Cxr w0 w L R) (hg : o.guard = some (j, pol)) (hd : o.dst = some d) (hj : (ops[j]?).bind (·.dst) = some dj) (hw : WantB (ev n f (.tmp dj)) pol c)
    (hc : c = true → Fc P k args w (IsI p)) (hf : P.funcs[k]? = some fn) (hb : fn.body.isNone = false) (hn : (fn.name == "runtime.NumGoroutine") = false)
    (ho : o.op = .call { callee := .value (.func k), args := az, argTypes := ats }) (hargs : c = true → az.toList.map (ev n f) = args)
    (h : ∀ m w', Cxr w0 w' L R → Below w.heap.size w w' → (c = true → p m) → wpList P ops Q rest (St n (upd f d (gv c (.int .i64 m)))) w') : wpList P ops Q (o :: rest) (St n f) w := by
  refine s_gfn cx hg hd hj hw hc hf hb hn ho hargs fun v w' hcx hbel hr => ?_
  cases c with
  | true =>
    obtain ⟨b, rfl, hp⟩ := hr rfl
    exact h b w' hcx hbel fun _ => hp
  | false =>
    have h := h 0 w' hcx hbel fun e => by cases e
    unfold gv at h ⊢
    exact h
/-! ### numbers and strings -/
theorem v_conv {s t : TypeId} {x : Operand} {k k' : IntKind} {m : Int} {d : TypeDesc} (ho : o.op = .convert s t x) (hx : ρ x = .int k' m) (hs : P.underlying s = some d) (ht : P.underlying t = some (.int k)) :
    (execOp ρ o).run P w = .ok (.value (.int k (k.wrap m))) w := by
  unfold execOp; rw [ho]
  simp [hx, convert, run_underlying hs, run_underlying ht, Conv.intToInt]
theorem wrap_u8 {m : Int} (h0 : 0 ≤ m) (h1 : m < 256) : IntKind.i64.wrap m = m := IntWalk.i64_in _ (by omega)
theorem v_ofByte {s t : TypeId} {x : Operand} {m : Int} {d : TypeDesc} (ho : o.op = .convert s t x) (hx : ρ x = .int .u8 m) (hs : P.underlying s = some d) (ht : P.underlying t = some (.int .i64)) (h0 : 0 ≤ m) (h1 : m < 256) :
    (execOp ρ o).run P w = .ok (.value (.int .i64 m)) w := by
  have := v_conv (w := w) ho hx hs ht
  rwa [wrap_u8 h0 h1] at this
def bitOp (op : BinOp) (k : IntKind) (x y : Int) : Int :=
  match op with
  | .and => k.wrap (BitVec.ofInt k.bits x &&& BitVec.ofInt k.bits y).toNat
  | .or => k.wrap (BitVec.ofInt k.bits x ||| BitVec.ofInt k.bits y).toNat
  | _ => 0
theorem v_band {t t' : TypeId} {x y : Operand} {k : IntKind} {p q : Int} (ho : o.op = .binOp .and t x y t') (hx : ρ x = .int k p) (hy : ρ y = .int k q) : (execOp ρ o).run P w = .ok (.value (.int k (bitOp .and k p q))) w := by
  unfold execOp; rw [ho]
  simp [hx, hy, eqGuard, binOp, Op.intBits, bitOp]
theorem v_bor {t t' : TypeId} {x y : Operand} {k : IntKind} {p q : Int} (ho : o.op = .binOp .or t x y t') (hx : ρ x = .int k p) (hy : ρ y = .int k q) : (execOp ρ o).run P w = .ok (.value (.int k (bitOp .or k p q))) w := by
  unfold execOp; rw [ho]
  simp [hx, hy, eqGuard, binOp, Op.intBits, bitOp]
def shl (k : IntKind) (x : Int) (y : Nat) : Int := k.wrap (x * 2 ^ min y k.bits)
def shr (k : IntKind) (x : Int) (y : Nat) : Int := x.fdiv (2 ^ min y k.bits)
theorem v_shl {t t' : TypeId} {x y : Operand} {k k' : IntKind} {p q : Int} (ho : o.op = .binOp .shl t x y t') (hx : ρ x = .int k p) (hy : ρ y = .int k' q) (h0 : 0 ≤ q) : (execOp ρ o).run P w = .ok (.value (.int k (shl k p q.toNat))) w := by
  unfold execOp; rw [ho]
  have : ¬ q < 0 := by omega
  simp [hx, hy, eqGuard, binOp, Op.shift, shl, this]
theorem v_shr {t t' : TypeId} {x y : Operand} {k k' : IntKind} {p q : Int} (ho : o.op = .binOp .shr t x y t') (hx : ρ x = .int k p) (hy : ρ y = .int k' q) (h0 : 0 ≤ q) : (execOp ρ o).run P w = .ok (.value (.int k (shr k p q.toNat))) w := by
  unfold execOp; rw [ho]
  have : ¬ q < 0 := by omega
  simp [hx, hy, eqGuard, binOp, Op.shift, shr, this]
def byteAt (s : ByteArray) (m : Int) : Int := ((s.data.toList.getD m.toNat 0).toNat : Int)
theorem byteAt_lo (s : ByteArray) (m : Int) : 0 ≤ byteAt s m := by unfold byteAt; omega
theorem byteAt_hi (s : ByteArray) (m : Int) : byteAt s m < 256 := by
  unfold byteAt; have := (s.data.toList.getD m.toNat 0).toNat_lt; omega
theorem v_idxStr {t : TypeId} {x y : Operand} {s : ByteArray} {k : IntKind} {m : Int} (ho : o.op = .index t x y) (hx : ρ x = .string s) (hy : ρ y = .int k m) (hu : P.underlying t = some .string) (h0 : 0 ≤ m) (h1 : m < s.size) :
    (execOp ρ o).run P w = .ok (.value (.int .u8 (byteAt s m))) w := by
  unfold execOp; rw [ho]
  have hlt : m.toNat < s.size := by omega
  have e : s[m.toNat]? = some s[m.toNat] := ByteArray.getElem?_lt' s _ hlt
  have hlt' : m.toNat < s.data.size := hlt
  have e2 : (s.data.toList.getD m.toNat 0) = s[m.toNat] := by
    rw [List.getD, List.getElem?_eq_getElem (by simpa using hlt')]; rfl
  unfold byteAt
  rw [e2]
  simp [hx, hy, Instr.index, asIntOf, run_underlying hu, h0, e]
theorem v_subStr {t : TypeId} {x y z : Operand} {s : ByteArray} {k k' : IntKind} {m l : Int} (ho : o.op = .slice t x (some y) (some z) none) (hx : ρ x = .string s) (hy : ρ y = .int k m) (hz : ρ z = .int k' l) (hu : P.underlying t = some .string) (h0 : 0 ≤ m) (h1 : m ≤ l) (h2 : l ≤ s.size) :
    (execOp ρ o).run P w = .ok (.value (.string (s.extract m.toNat l.toNat))) w := by
  unfold execOp; rw [ho]
  have h3 : 0 ≤ l := by omega
  simp [hx, hy, hz, Instr.sliceAt, Instr.slice, Instr.sliceBounds, Instr.sliceBound, asIntOf, run_underlying hu, h0, h2, h3]
  intro h4
  omega
/-! ### slices that the call makes -/
def EI (P : Program) (e size bytes : Nat) : Prop := ∃ i z, P.info? e = some i ∧ i.zero = some z ∧ i.size = size ∧ i.bytes = bytes ∧ z.cells.size = size ∧ 0 < size ∧ 0 < bytes
theorem ei_of {e size bytes : Nat} {z : Value} (h : (P.info? e).map (fun i => (i.zero, i.size, i.bytes)) = some (some z, size, bytes)) (hz : z.cells.size = size) (h0 : Nat.blt 0 size = true) (h1 : Nat.blt 0 bytes = true) : EI P e size bytes := by
  obtain ⟨i, hi, hzz⟩ := Option.map_eq_some_iff.1 h
  simp only [Prod.mk.injEq] at hzz
  rw [blt_iff] at h0 h1
  exact ⟨i, z, hi, hzz.1, hzz.2.1, hzz.2.2, hz, by simpa using h0, by simpa using h1⟩
theorem run_append_new {t ty e size bytes : Nat} {v : Value} {k m c base : Nat} {ad : Addr} {xs news : List Value} (ei : EI P e size bytes) (ht : P.underlying t = some (.slice e)) (hown : w.ownsRow base e size v k xs)
    (hl : news.length = m * size) (hnews : ∀ j u, news[j]? = some u → w.cell? (ad.add j) = some u) (h1 : ∀ u ∈ news, u.oneCell' = true) (hb : (k + m) * bytes ≤ 140737488355328) (hbase : base ≤ w.heap.size) :
    ∃ v' w', (Builtin.append_ #[t, t] ty #[v, .slice (some ad) m c]).run P w = .ok v' w' ∧ w'.ownsRow base e size v' (k + m) (xs ++ news) ∧ w.grownBy w' v.ownBlock ∧
      (∀ q, v'.ownBlock = some q → v.ownBlock = some q ∨ w.heap.size ≤ q) := by
  obtain ⟨i, z, hi, hz, hsz, hby, hzs, hp, hpb⟩ := ei
  have hle : k + m ≤ (k + m) * bytes := Nat.le_mul_of_pos_right _ hpb
  obtain ⟨v', w', hrun, hrow, hgr, hnil⟩ := run_append_own (P := P) w base t ty e i z size bytes ht hi hz hsz hby hzs hp v k xs hown ad m c news hl hnews h1 (by unfold maxLen; omega) hb hbase
  refine ⟨v', w', hrun, hrow, hgr, ?_⟩
  intro q hq
  subst hsz
  subst hby
  rcases hown.2 with ⟨rfl, rfl⟩ | ⟨g, cap, cur, rfl, hbg, hg, hnc, hcm, hcs, htake⟩
  · by_cases hm : m = 0
    · rw [hnil.2 ⟨rfl, hm⟩] at hq
      simp [Value.ownBlock] at hq
    · have hr := run_append_nil (P := P) w t ty e i z ht hi hz ad m c news hl hnews (by omega) (by omega) (by simp only [Nat.zero_add] at hb; omega)
      rw [hr] at hrun
      cases hrun
      simp only [Value.ownBlock, Option.some.injEq] at hq
      exact .inr (by omega)
  · by_cases hroom : k + m ≤ cap
    · have hfit : k * i.size + news.length ≤ cur.size := by rw [hl, hcs, ← Nat.add_mul]; exact Nat.mul_le_mul_right _ hroom
      have hr := run_append_room (P := P) w t ty e i ht hi g k cap cur hg ad m c news hl hnews h1 hroom hfit
      rw [hr] at hrun
      cases hrun
      exact .inl hq
    · have holds : ∀ j u, xs[j]? = some u → w.cell? ((⟨g, 0, none⟩ : Addr).add j) = some u := hown.cells (g := g) rfl
      have hr := run_append_grow (P := P) w t ty e i z ht hi hz ⟨g, 0, none⟩ k cap xs hown.1 holds ad m c news hl hnews (by omega) (by omega) (growslice_fits (by omega) hb)
      rw [hr] at hrun
      cases hrun
      simp only [Value.ownBlock, Option.some.injEq] at hq
      exact .inr (by omega)
theorem s_append' {s x : Operand} {t e size bytes : Nat} {v : Value} {k m c d : Nat} {ad : Addr} {xs news : List Value} (cx : Cxr w0 w L (⟨e, size, v, k, xs⟩ :: R)) (ei : EI P e size bytes) (ht : P.underlying t = some (.slice e))
    (hg : o.guard = none) (hd : o.dst = some d) (ho : o.op = .call { callee := .builtin .append, args := #[s, x], argTypes := #[t, t] }) (hs : ev n f s = v) (hx : ev n f x = .slice (some ad) m c)
    (hr : ∀ j u, news[j]? = some u → w.cell? (ad.add j) = some u) (hl : news.length = m * size) (h1 : news.all (·.oneCell') = true) (hb : (k + m) * bytes ≤ 140737488355328)
    (h : ∀ v' w', Cxr w0 w' L (⟨e, size, v', k + m, xs ++ news⟩ :: R) → w.grownBy w' v.ownBlock → wpList P ops Q rest (St n (upd f d v')) w') : wpList P ops Q (o :: rest) (St n f) w := by
  have hrow0 := cx.rows _ (List.mem_cons_self ..)
  have hoff0 := cx.off _ (List.mem_cons_self ..)
  have hpw0 := (List.pairwise_cons.1 cx.pw).1
  simp only at hrow0 hoff0
  obtain ⟨v', w', hrun, hrow, hgr, hnew⟩ := run_append_new (P := P) (ty := o.type) (c := c) (ad := ad) ei ht hrow0 hl hr (by simpa using h1) hb cx.ext.size
  have hcx0 : Cxr w0 w' L R := by
    refine ⟨cx.ext.grown hgr cx.ext.size (fun k hk => (hrow0.lt k hk).1), ?_, cx.lo, cx.nd, ?_, fun r hr => cx.off r (List.mem_cons_of_mem _ hr), (List.pairwise_cons.1 cx.pw).2⟩
    · intro p hp'
      rw [hgr.block p.1 (cx.lt p hp') (fun e => hoff0 p.1 e.symm (List.mem_map.2 ⟨p, hp', rfl⟩))]
      exact cx.own p hp'
    · intro r hr
      refine cx.row_keep (List.mem_cons_of_mem _ hr) hgr.os hgr.tape hgr.output hgr.size fun q hq hv => hgr.block q hq fun e => ?_
      exact hpw0 r hr q e.symm hv
  refine s_new (w' := w') (v := v') hg hd ?_ (h v' w' (hcx0.addRow _ hrow ?_ ?_) hgr)
  · unfold execOp; rw [ho]
    simp [resolve, invoke, builtin, hs, hx, hrun, Result.andThen]
  · intro q hq hm
    obtain ⟨p, hp', rfl⟩ := List.mem_map.1 hm
    rcases hnew _ hq with h2 | h2
    · exact hoff0 _ h2 (List.mem_map.2 ⟨p, hp', rfl⟩)
    · have := cx.lt p hp'; omega
  · intro r hr q hq hq'
    rcases hnew _ hq with h2 | h2
    · exact hpw0 r hr q h2 hq'
    · have := ((cx.rows r (List.mem_cons_of_mem _ hr)).lt _ hq').2; omega
theorem s_append {s x : Operand} {t e size bytes : Nat} {v : Value} {k m c b off d : Nat} {xs news : List Value} (cx : Cxr w0 w L (⟨e, size, v, k, xs⟩ :: R)) (ei : EI P e size bytes) (ht : P.underlying t = some (.slice e))
    (hg : o.guard = none) (hd : o.dst = some d) (ho : o.op = .call { callee := .builtin .append, args := #[s, x], argTypes := #[t, t] }) (hs : ev n f s = v) (hx : ev n f x = .slice (some ⟨b, off, none⟩) m c)
    (hr : RowAt w b off news) (hl : news.length = m * size) (h1 : news.all (·.oneCell') = true) (hb : (k + m) * bytes ≤ 140737488355328)
    (h : ∀ v' w', Cxr w0 w' L (⟨e, size, v', k + m, xs ++ news⟩ :: R) → w.grownBy w' v.ownBlock → wpList P ops Q rest (St n (upd f d v')) w') : wpList P ops Q (o :: rest) (St n f) w :=
  s_append' cx ei ht hg hd ho hs hx (fun j u hj => by rw [add_addr]; exact hr j u hj) hl h1 hb h
theorem s_append0 {s x : Operand} {t e size bytes : Nat} {v : Value} {k d : Nat} {xs : List Value} (cx : Cxr w0 w L (⟨e, size, v, k, xs⟩ :: R)) (ei : EI P e size bytes) (ht : P.underlying t = some (.slice e))
    (hg : o.guard = none) (hd : o.dst = some d) (ho : o.op = .call { callee := .builtin .append, args := #[s, x], argTypes := #[t, t] }) (hs : ev n f s = v) (hx : ev n f x = .slice none 0 0)
    (h : wpList P ops Q rest (St n (upd f d v)) w) : wpList P ops Q (o :: rest) (St n f) w := by
  obtain ⟨i, z, hi, hz, hsz, hby, hzs, hp, hpb⟩ := ei
  have hrun := run_append_owned_none (P := P) w w0.heap.size t o.type e i size ht hi v k xs (cx.rows _ (List.mem_cons_self ..))
  refine s_val (v := v) hg hd ?_ h
  unfold execOp; rw [ho]
  simp [resolve, invoke, builtin, hs, hx, hrun, Result.andThen]
theorem fold_set (c : List Value) : ∀ (i : Nat) (z : Array Value), z.size = i + c.length → ((c.zipIdx i).foldl (fun cs (p : Value × Nat) => cs.setIfInBounds p.2 p.1) z) = (z.toList.take i ++ c).toArray := by
  induction c with
  | nil =>
    intro i z h
    simp at h
    apply Array.ext'
    simp only [← h, List.append_nil]
    rw [List.take_of_length_le (by simp)]
    simp
  | cons x c ih =>
    intro i z h
    simp only [List.zipIdx_cons, List.foldl_cons]
    rw [ih (i + 1) _ (by simp at h ⊢; omega)]
    congr 1
    simp at h
    have hi : i < z.toList.length := by simp; omega
    rw [Array.toList_setIfInBounds, List.set_eq_take_append_cons_drop, if_pos hi]
    have h1 : (List.take i z.toList).length = i := by simp; omega
    rw [List.take_append, h1, List.take_take, Nat.min_eq_right (by omega)]
    simp
theorem s_bsl1 {t e size d : Nat} {x : Operand} {v : Value} {cs zs : List Value} (cx : Cxr w0 w L R) (ht : P.underlying t = some (.slice e)) (hs : (P.info? e).map (·.size) = some size) (hz : Zero P e zs) (hsm : Nat.ble size 1000 = true) (hp : Nat.blt 0 size = true)
    (hg : o.guard = none) (hd : o.dst = some d) (ho : o.op = .buildSlice t 1 #[(0, x)]) (hx : ev n f x = v) (hv : v.cells = cs.toArray) (hl : cs.length = size)
    (h : ∀ b w', Cxr w0 w' ((b, .cells cs.toArray e) :: L) R → w.heap.size = b → Below w.heap.size w w' → wpList P ops Q rest (St n (upd f d (.slice (some ⟨b, 0, none⟩) 1 1))) w') : wpList P ops Q (o :: rest) (St n f) w := by
  obtain ⟨z, hz1, hz2⟩ := hz
  have hp' : 0 < size := by simpa [blt_iff] using hp
  have hsm' : size ≤ 1000 := Nat.le_of_ble_eq_true hsm
  refine s_new (w' := w.alloc (.cells cs.toArray e)) (v := .slice (some ⟨w.heap.size, 0, none⟩) 1 1) hg hd ?_ (h _ _ (cx.alloc _) rfl ((Below.refl _ _).alloc (Nat.le_refl _) _))
  have hfill : Instr.fill (fun i => some (i * size, size)) ((Array.range (1 * size)).map (z.cells[· % z.cells.size]!)) [(0, v)] = some cs.toArray := by
    have hsz : ((Array.range (1 * size)).map (z.cells[· % z.cells.size]!)).size = size := by simp
    generalize (Array.range (1 * size)).map (z.cells[· % z.cells.size]!) = zz at hsz
    have := fold_set cs 0 zz (by omega)
    have hvs : v.cells.size = size := by rw [hv]; simpa using hl
    simp only [Instr.fill, Nat.zero_mul, Nat.zero_add, hvs, hsz]
    simp only [hv]
    simp at this ⊢
    exact this
  unfold execOp; rw [ho]
  have h0 : ¬ (size = 0) := by omega
  have h1 : ¬ (16777216 < size) := by omega
  simp only [Nat.one_mul] at hfill
  simp [Instr.buildSlice, hx, run_underlying ht, run_size (w := w) hs, h0, h1, hz1 w, hfill, newRow]
theorem s_bsl0 {t e size d : Nat} (cx : Cxr w0 w L R) (ht : P.underlying t = some (.slice e)) (hs : (P.info? e).map (·.size) = some size) (hg : o.guard = none) (hd : o.dst = some d) (ho : o.op = .buildSlice t 0 #[])
    (h : ∀ b w', Cxr w0 w' ((b, .cells #[] e) :: L) R → w.heap.size = b → Below w.heap.size w w' → wpList P ops Q rest (St n (upd f d (.slice (some ⟨b, 0, none⟩) 0 0))) w') : wpList P ops Q (o :: rest) (St n f) w := by
  refine s_new (w' := w.alloc (.cells #[] e)) (v := .slice (some ⟨w.heap.size, 0, none⟩) 0 0) hg hd ?_ (h _ _ (cx.alloc _) rfl ((Below.refl _ _).alloc (Nat.le_refl _) _))
  unfold execOp; rw [ho]
  have e0 : Array.map (fun _ : Nat => (default : Value)) (Array.range 0) = #[] := by simp [Array.range]
  simp [Instr.buildSlice, run_underlying ht, run_size (w := w) hs, Instr.fill, newRow, e0]
theorem s_bsl2 {t e d : Nat} {x y : Operand} {v u : Value} {z : Value} (cx : Cxr w0 w L R) (ht : P.underlying t = some (.slice e)) (hs : (P.info? e).map (·.size) = some 1) (hz : Zero P e [z])
    (hg : o.guard = none) (hd : o.dst = some d) (ho : o.op = .buildSlice t 2 #[(0, x), (1, y)]) (hx : ev n f x = v) (hy : ev n f y = u) (hv : v.cells = #[v]) (hu : u.cells = #[u])
    (h : ∀ b w', Cxr w0 w' ((b, .cells #[v, u] e) :: L) R → w.heap.size = b → Below w.heap.size w w' → wpList P ops Q rest (St n (upd f d (.slice (some ⟨b, 0, none⟩) 2 2))) w') : wpList P ops Q (o :: rest) (St n f) w := by
  obtain ⟨zv, hz1, hz2⟩ := hz
  refine s_new (w' := w.alloc (.cells #[v, u] e)) (v := .slice (some ⟨w.heap.size, 0, none⟩) 2 2) hg hd ?_ (h _ _ (cx.alloc _) rfl ((Below.refl _ _).alloc (Nat.le_refl _) _))
  unfold execOp; rw [ho]
  simp [Instr.buildSlice, hx, hy, run_underlying ht, run_size (w := w) hs, hz1 w, hz2, Instr.fill, hv, hu, newRow, Array.range, Array.zipIdx]
  rfl
theorem s_bsl3 {t e d : Nat} {x y y' : Operand} {v u u' : Value} {z : Value} (cx : Cxr w0 w L R) (ht : P.underlying t = some (.slice e)) (hs : (P.info? e).map (·.size) = some 1) (hz : Zero P e [z])
    (hg : o.guard = none) (hd : o.dst = some d) (ho : o.op = .buildSlice t 3 #[(0, x), (1, y), (2, y')]) (hx : ev n f x = v) (hy : ev n f y = u) (hy' : ev n f y' = u') (hv : v.cells = #[v]) (hu : u.cells = #[u]) (hu' : u'.cells = #[u'])
    (h : ∀ b w', Cxr w0 w' ((b, .cells #[v, u, u'] e) :: L) R → w.heap.size = b → Below w.heap.size w w' → wpList P ops Q rest (St n (upd f d (.slice (some ⟨b, 0, none⟩) 3 3))) w') : wpList P ops Q (o :: rest) (St n f) w := by
  obtain ⟨zv, hz1, hz2⟩ := hz
  refine s_new (w' := w.alloc (.cells #[v, u, u'] e)) (v := .slice (some ⟨w.heap.size, 0, none⟩) 3 3) hg hd ?_ (h _ _ (cx.alloc _) rfl ((Below.refl _ _).alloc (Nat.le_refl _) _))
  unfold execOp; rw [ho]
  simp [Instr.buildSlice, hx, hy, hy', run_underlying ht, run_size (w := w) hs, hz1 w, hz2, Instr.fill, hv, hu, hu', newRow, Array.range, Array.zipIdx]
  rfl
theorem s_bsl4 {t e d : Nat} {x y y' y'' : Operand} {v u u' u'' : Value} {z : Value} (cx : Cxr w0 w L R) (ht : P.underlying t = some (.slice e)) (hs : (P.info? e).map (·.size) = some 1) (hz : Zero P e [z])
    (hg : o.guard = none) (hd : o.dst = some d) (ho : o.op = .buildSlice t 4 #[(0, x), (1, y), (2, y'), (3, y'')]) (hx : ev n f x = v) (hy : ev n f y = u) (hy' : ev n f y' = u') (hy'' : ev n f y'' = u'') (hv : v.cells = #[v]) (hu : u.cells = #[u]) (hu' : u'.cells = #[u']) (hu'' : u''.cells = #[u''])
    (h : ∀ b w', Cxr w0 w' ((b, .cells #[v, u, u', u''] e) :: L) R → w.heap.size = b → Below w.heap.size w w' → wpList P ops Q rest (St n (upd f d (.slice (some ⟨b, 0, none⟩) 4 4))) w') : wpList P ops Q (o :: rest) (St n f) w := by
  obtain ⟨zv, hz1, hz2⟩ := hz
  refine s_new (w' := w.alloc (.cells #[v, u, u', u''] e)) (v := .slice (some ⟨w.heap.size, 0, none⟩) 4 4) hg hd ?_ (h _ _ (cx.alloc _) rfl ((Below.refl _ _).alloc (Nat.le_refl _) _))
  unfold execOp; rw [ho]
  simp [Instr.buildSlice, hx, hy, hy', hy'', run_underlying ht, run_size (w := w) hs, hz1 w, hz2, Instr.fill, hv, hu, hu', hu'', newRow, Array.range, Array.zipIdx]
  rfl
def strOf (ns : List Int) : ByteArray := ns.foldl (fun r n => r.push (UInt8.ofNat n.toNat)) ByteArray.empty
theorem v_b2s {s t e : TypeId} {x : Operand} {b off c : Nat} {ns : List Int} (ho : o.op = .convert s t x) (hs : P.underlying s = some (.slice e)) (he : P.underlying e = some (.int .u8)) (ht : P.underlying t = some .string)
    (hr : RowAt w b off (ns.map (Value.int .u8))) {m : Nat} (hm : ns.length = m) (hx : ρ x = .slice (some ⟨b, off, none⟩) m c) : (execOp ρ o).run P w = .ok (.value (.string (strOf ns))) w := by
  unfold execOp; rw [ho]
  subst hm
  have hl := run_loadCells_list (P := P) w ⟨b, off, none⟩ (ns.map (Value.int .u8)) (fun j v hv => by rw [add_addr]; exact hr j v hv)
  simp only [List.length_map] at hl
  have := run_bytesToString (P := P) w ⟨b, off, none⟩ ns.length c ns hl
  simp [hx, run_convert_bytes_string w s t e _ _ _ hs he ht, this, strOf]
end
theorem w_cut {P : Program} {x y : Code} {Q : Exit → Act → World → Prop} {n : Nat} {f : Nat → Value} {w : World} (J : (Nat → Value) → World → Prop)
    (h1 : x.wp P (Exit.then (fun a w => ∃ f, a = St n f ∧ J f w) Q) (St n f) w) (h2 : ∀ f w, J f w → y.wp P Q (St n f) w) : (Code.seq x y).wp P Q (St n f) w := by
  refine wp_seq (wp_mono h1 ?_)
  intro e a w hq
  cases e with
  | normal =>
    obtain ⟨f', rfl, hJ⟩ := hq
    exact h2 f' w hJ
  | _ => exact hq
theorem c_split {P : Program} {x y : Code} {Q : Exit → Act → World → Prop} {n : Nat} {f : Nat → Value} {w : World} {t : Nat} {b : Bool} (hc : ev n f (.tmp t) = .bool b) (ht : b = true → x.wp P Q (St n f) w) (hf : b = false → y.wp P Q (St n f) w) :
    (Code.cond (.tmp t) x y).wp P Q (St n f) w := wp_cond_split (by rw [eval_St]; exact hc) ht hf
theorem cons_eq {a b : Value} {l l' : List Value} (h : a = b) (t : l = l') : a :: l = b :: l' := by rw [h, t]
end Go.Dk
end
section
set_option linter.unusedVariables false
set_option linter.unusedSimpArgs false
namespace Go.Dk
open Go Go.RowKit
def lk (l : Array Bool) (i : Nat) : Bool := l.getD i false
def depsOf (ops : Array Oper) (j : Nat) : List Nat := match ops[j]? with
  | none => []
  | some o => (o.after.toList.filter (Region.binds .any)).map (·.on)
def isAnc (ops : Array Oper) : Nat → Nat → Nat → Bool
  | 0, _, _ => false
  | k + 1, i, j => (depsOf ops j).any fun e => e == i || isAnc ops k i e
def chkOrd (ops : Array Oper) (pu : List (Nat × Nat)) : Bool :=
  Region.noSelect ops &&
  ((List.range ops.size).all fun j => (depsOf ops j).all fun e => Nat.blt e j) &&
  (pu.all fun p => match ops[p.1]? with
    | none => false
    | some o => (match o.dst with | some d => Nat.beq d p.2 | none => false) &&
      (List.range ops.size).all fun j => match ops[j]? with
        | none => true
        | some oj => (match oj.dst with
            | none => true
            | some d => Nat.beq j p.1 || (!Nat.beq d p.2 && (pu.any (fun q => Nat.beq q.1 j) || !(o.looksAt ops).contains d || isAnc ops 12 p.1 j))) &&
          (!(oj.looksAt ops).contains p.2 || isAnc ops 12 p.1 j))
theorem anc_listed {ops : Array Oper} {listed : Array Bool} (hcl : ∀ j, lk listed j = true → ∀ e ∈ depsOf ops j, lk listed e = true) : ∀ (k i j : Nat), (∀ e ∈ depsOf ops j, lk listed e = true) → isAnc ops k i j = true → lk listed i = true
  | 0, _, _, _, h => by simp [isAnc] at h
  | k + 1, i, j, hj, h => by
    simp only [isAnc, List.any_eq_true, Bool.or_eq_true, beq_iff_eq] at h
    obtain ⟨e, he, rfl | h⟩ := h
    · exact hj e he
    · exact anc_listed hcl k i e (hcl e (hj e he)) h
def Fin0 (K : Act → World → Prop) : Exit → Act → World → Prop
  | .normal, a, w => K a w
  | _, _, _ => False
theorem Fin0.shut {K : Act → World → Prop} : ¬ LetsOut (Fin0 K) := fun ⟨_, _, h⟩ => h
def lateB (ops : Array Oper) (pu : List (Nat × Nat)) (i : Nat) : Bool := pu.all fun p => isAnc ops 12 p.1 i
def wpX (P : Program) (ops : Array Oper) (pu : List (Nat × Nat)) (Q : Exit → Act → World → Prop) (S : World → Prop) : Nat → Array Bool → Act → World → Prop
  | 0, _, _, _ => False
  | k + 1, l, a, w => (Region.ready .any ops l = [] → Q .normal a w) ∧
    ∀ i ∈ Region.ready .any ops l, ∃ o, ops[i]? = some o ∧ wpList P ops (Fin0 fun a' w' => (S w' ∨ lateB ops pu i = true) ∧ wpX P ops pu Q S k (l.setIfInBounds i true) a' w') [o] a w
structure Rl (bad : Nat → Prop) (a b : Act) : Prop where
  df : a.defers = b.defers
  sz : a.tmps.size = b.tmps.size
  tm : ∀ x, ¬ bad x → a.tmps[x]? = b.tmps[x]?
theorem Rl.eval {bad : Nat → Prop} {a b : Act} (h : Rl bad a b) {x : Operand} (hx : ∀ t, x = .tmp t → ¬ bad t) : a.eval x = b.eval x := by
  cases x with
  | tmp t =>
    have := h.tm t (hx t rfl)
    simp only [Act.eval, Array.getD_eq_getD_getElem?, this]
  | _ => rfl
theorem Rl.put {bad bad' : Nat → Prop} {a b : Act} (h : Rl bad a b) (d : Option Nat) (v : Value) (hb : ∀ x, ¬ bad' x → d = some x ∨ ¬ bad x) : Rl bad' (a.put d v) (b.put d v) := by
  cases d with
  | none => exact ⟨h.df, h.sz, fun x hx => h.tm x ((hb x hx).resolve_left (by simp))⟩
  | some d =>
    refine ⟨h.df, by simp [Act.put, h.sz], fun x hx => ?_⟩
    simp only [Act.put, Array.getElem?_setIfInBounds, h.sz]
    split
    · rfl
    · rename_i hne
      exact h.tm x ((hb x hx).resolve_left fun e => hne (by simpa using e))
section
variable {P : Program} {ops : Array Oper} {Q : Exit → Act → World → Prop} {S : World → Prop} {pu : List (Nat × Nat)}
theorem looks_ev {o : Oper} {bad : Nat → Prop} {a b : Act} (h : Rl bad a b) (hl : ∀ t ∈ o.looksAt ops, ¬ bad t) : (∀ x ∈ o.op.operands, a.eval x = b.eval x) ∧ Region.wanted o (yielded ops a.tmps) = Region.wanted o (yielded ops b.tmps) := by
  refine ⟨fun x hx => h.eval fun t e => hl t ?_, ?_⟩
  · subst e
    exact List.mem_append_left _ (List.mem_filterMap.2 ⟨.tmp t, by simpa using hx, rfl⟩)
  · unfold Region.wanted
    cases hg : o.guard with
    | none => rfl
    | some gw =>
      obtain ⟨g, want⟩ := gw
      have hy : yielded ops a.tmps g = yielded ops b.tmps g := by
        unfold yielded
        cases ht : (ops[g]?).bind (·.dst) with
        | none => rfl
        | some t =>
          have := h.tm t (hl t (by simp [Oper.looksAt, hg, ht]))
          simp [this]
      simp only [hy]
theorem step_rl {o : Oper} {bad bad' : Nat → Prop} {a b : Act} {w : World} {K K' : Act → World → Prop} (hns : ∀ cs b, o.op ≠ .select cs b) (h : Rl bad a b) (hl : ∀ t ∈ o.looksAt ops, ¬ bad t) (hb : ∀ x, ¬ bad' x → o.dst = some x ∨ ¬ bad x)
    (hK : ∀ a' b' w', Rl bad' a' b' → (∃ v df, b' = ({ b with defers := df } : Act).put o.dst v) → K b' w' → K' a' w') (H : wpList P ops (Fin0 K) [o] b w) :
    if Region.wanted o (yielded ops a.tmps) then o.wp P a w K' Q else K' (a.put o.dst undef) w := by
  obtain ⟨h1, h2⟩ := looks_ev h hl
  unfold wpList at H
  rw [← h2] at H
  split
  · rename_i hw
    rw [if_pos hw] at H
    rcases H with H | ⟨_, H⟩
    · unfold Oper.wp at *
      rw [execOp_congr o hns h1]
      generalize (execOp b.eval o).run P w = r at *
      cases r with
      | ok n w' =>
        cases n <;> simp only [Oper.upon] at H ⊢
        case value u => exact hK _ _ _ (h.put _ _ hb) ⟨u, b.defers, rfl⟩ H
        case skip => exact hK _ _ _ (h.put _ _ hb) ⟨undef, b.defers, rfl⟩ H
        case defer d =>
          refine hK _ _ _ (Rl.put (a := { a with defers := d :: a.defers }) (b := { b with defers := d :: b.defers }) ⟨by simp [h.df], h.sz, h.tm⟩ _ _ hb) ⟨undef, d :: b.defers, rfl⟩ H
        case enter f args =>
          refine Calls.mono H fun e w'' he => ?_
          cases e with
          | returned u => exact hK _ _ _ (h.put _ _ hb) ⟨u, b.defers, rfl⟩ he
          | panicked c => exact he.elim
          | outgrown => exact (Fin0.shut he).elim
        case row row args => exact Rows.mono H fun u w'' he => hK _ _ _ (h.put _ _ hb) ⟨u, b.defers, rfl⟩ he
      | halt x w' =>
        cases x <;> simp only [Oper.upon] at H ⊢
        case panic u => exact H.elim
    · exact (Fin0.shut H).elim
  · rename_i hw
    rw [if_neg hw] at H
    exact hK _ _ _ (h.put _ _ hb) ⟨undef, b.defers, rfl⟩ H
theorem chk_sel (h : chkOrd ops pu = true) : Region.noSelect ops = true := by
  unfold chkOrd at h; simp only [Bool.and_eq_true] at h; exact h.1.1
theorem chk_dep (h : chkOrd ops pu = true) (j e : Nat) (he : e ∈ depsOf ops j) : e < j := by
  unfold chkOrd at h; simp only [Bool.and_eq_true, List.all_eq_true, List.mem_range] at h
  have hj : j < ops.size := by
    rcases Nat.lt_or_ge j ops.size with h' | h'
    · exact h'
    · simp [depsOf, Array.getElem?_eq_none h'] at he
  have := h.1.2 j hj e he; simpa using this
theorem chk_pu (h : chkOrd ops pu = true) (p : Nat × Nat) (hp : p ∈ pu) : ∃ o, ops[p.1]? = some o ∧ True ∧ o.dst = some p.2 ∧
    ∀ j oj, ops[j]? = some oj → (∀ d, oj.dst = some d → j = p.1 ∨ (d ≠ p.2 ∧ (pu.any (fun q => Nat.beq q.1 j) = true ∨ d ∉ o.looksAt ops ∨ isAnc ops 12 p.1 j = true))) ∧ (p.2 ∈ oj.looksAt ops → isAnc ops 12 p.1 j = true) := by
  unfold chkOrd at h; simp only [Bool.and_eq_true, List.all_eq_true, List.mem_range] at h
  have h1 := h.2 p hp
  cases ho : ops[p.1]? with
  | none => rw [ho] at h1; cases h1
  | some o =>
    rw [ho] at h1
    simp only [Bool.and_eq_true, List.all_eq_true, List.mem_range] at h1
    obtain ⟨h3, h4⟩ := h1
    refine ⟨o, rfl, trivial, ?_, fun j oj hj => ?_⟩
    · cases hd : o.dst with
      | none => rw [hd] at h3; cases h3
      | some d => rw [hd] at h3; simpa using h3
    · have h5 := h4 j (Array.getElem?_eq_some_iff.1 hj).1
      rw [hj] at h5
      simp only [Bool.and_eq_true] at h5
      refine ⟨fun d hd => ?_, fun hm => ?_⟩
      · have h6 := h5.1
        rw [hd] at h6
        simp only [Bool.or_eq_true, Bool.and_eq_true, Nat.beq_eq, Bool.not_eq_true', List.contains_eq_mem, decide_eq_false_iff_not] at h6
        rcases h6 with h6 | ⟨h6, h7⟩
        · exact .inl h6
        · refine .inr ⟨fun e => by subst e; simp at h6, ?_⟩
          rcases h7 with (h7 | h7) | h7
          · exact .inl h7
          · exact .inr (.inl h7)
          · exact .inr (.inr h7)
      · have h6 := h5.2
        simp only [Bool.or_eq_true, Bool.not_eq_true', List.contains_eq_mem, decide_eq_false_iff_not] at h6
        exact h6.resolve_left fun h => h hm
theorem lk_set {l : Array Bool} {i j : Nat} (hi : i < l.size) : lk (l.setIfInBounds i true) j = (lk l j || Nat.beq i j) := by
  unfold lk
  by_cases hij : i = j
  · subst hij; simp [hi]
  · have : Nat.beq i j = false := by
      cases hb : Nat.beq i j
      · rfl
      · exact absurd (Nat.eq_of_beq_eq_true hb) hij
    simp [this, Array.getElem?_setIfInBounds_ne hij]
theorem getD_t {l : Array Bool} {i : Nat} (hi : i < l.size) : l.getD i true = lk l i := by
  unfold lk; simp [hi]
theorem ready_iff {listed : Array Bool} {j : Nat} (hs : listed.size = ops.size) : j ∈ Region.ready .any ops listed ↔ j < ops.size ∧ lk listed j = false ∧ ∀ e ∈ depsOf ops j, lk listed e = true := by
  rw [mem_ready]
  constructor
  · rintro ⟨h0, o, ho, h1⟩
    have hj := (Array.getElem?_eq_some_iff.1 ho).1
    refine ⟨hj, by rw [← getD_t (by omega)]; exact h0, fun e he => ?_⟩
    simp only [depsOf, ho, List.mem_map, List.mem_filter, Array.mem_toList_iff] at he
    obtain ⟨ed, ⟨he1, he2⟩, rfl⟩ := he
    exact h1 ed he1 he2
  · rintro ⟨hj, h0, h1⟩
    refine ⟨by rw [getD_t (by omega)]; exact h0, ops[j], Array.getElem?_eq_getElem hj, fun e he hb => ?_⟩
    refine h1 e.on ?_
    simp only [depsOf, Array.getElem?_eq_getElem hj, List.mem_map, List.mem_filter, Array.mem_toList_iff]
    exact ⟨e, ⟨he, hb⟩, rfl⟩
theorem ready_end (hch : chkOrd ops pu = true) {listed : Array Bool} (hs : listed.size = ops.size) (h : Region.ready .any ops listed = []) : ∀ i, i < ops.size → lk listed i = true := by
  intro i
  induction i using Nat.strongRecOn with
  | _ i ih =>
    intro hi
    cases hl : lk listed i with
    | true => rfl
    | false =>
      have : i ∈ Region.ready .any ops listed := (ready_iff hs).2 ⟨hi, hl, fun e he => ih e (chk_dep hch i e he) (by have := chk_dep hch i e he; omega)⟩
      rw [h] at this
      cases this
theorem count_set {l : Array Bool} {i : Nat} (hi : i < l.size) (h : lk l i = false) : (l.setIfInBounds i true).toList.count false + 1 = l.toList.count false := by
  have h0 : l.toList[i]'(by simpa using hi) = false := by
    simp only [lk] at h
    simpa [hi] using h
  have hpos : 0 < l.toList.count false := List.count_pos_iff.2 (by rw [← h0]; exact List.getElem_mem _)
  rw [Array.toList_setIfInBounds, List.count, List.countP_set (by simpa using hi), h0]
  unfold List.count at hpos
  have e1 : ((false : Bool) == false) = true := rfl
  have e2 : ((true : Bool) == false) = false := rfl
  rw [e1, e2, if_pos rfl, if_neg (by simp)]
  omega
theorem orders_done (hch : chkOrd ops pu = true) {k : Nat} {listed l : Array Bool} {a b : Act} {w : World} (hs : listed.size = ops.size) (hl : l.size = ops.size)
    (hm : ∀ i, i < ops.size → lk l i = (lk listed i || pu.any (fun q => Nat.beq q.1 i))) (hr : Rl (fun x => ∃ p ∈ pu, p.2 = x ∧ lk listed p.1 = false) a b) (hx : wpX P ops pu Q S k l b w) (h0 : Region.ready .any ops listed = []) : Q .normal a w := by
  have hall := ready_end hch hs h0
  have hab : a = b := by
    obtain ⟨ta, da⟩ := a
    obtain ⟨tb, db⟩ := b
    have h1 : da = db := hr.df
    have h2 : ta = tb := by
      apply Array.ext_getElem?
      intro x
      refine hr.tm x ?_
      rintro ⟨p, hp, _, hf⟩
      obtain ⟨o, ho, _⟩ := chk_pu hch p hp
      rw [hall p.1 (Array.getElem?_eq_some_iff.1 ho).1] at hf
      cases hf
    rw [h1, h2]
  subst hab
  cases k with
  | zero => exact hx.elim
  | succ k =>
    refine hx.1 ?_
    cases hrr : Region.ready .any ops l with
    | nil => rfl
    | cons x xs =>
      have hx : x ∈ Region.ready .any ops l := by rw [hrr]; exact List.mem_cons_self ..
      obtain ⟨h1, h2, _⟩ := (ready_iff hl).1 hx
      rw [hm x h1, hall x h1] at h2
      cases h2
theorem orders_go (hch : chkOrd ops pu = true) : ∀ (fuel k : Nat) (listed l : Array Bool) (a b : Act) (w : World), listed.toList.count false ≤ fuel → listed.size = ops.size → l.size = ops.size →
    (∀ i, i < ops.size → lk l i = (lk listed i || pu.any (fun q => Nat.beq q.1 i))) → (∀ j, lk listed j = true → ∀ e ∈ depsOf ops j, lk listed e = true) →
    Rl (fun x => ∃ p ∈ pu, p.2 = x ∧ lk listed p.1 = false) a b → (S w ∨ ∀ p ∈ pu, lk listed p.1 = true) →
    (∀ p ∈ pu, lk listed p.1 = false → ∃ o v, ops[p.1]? = some o ∧ b.tmps[p.2]? = some v ∧ Region.wanted o (yielded ops b.tmps) = true ∧ ∀ w', S w' → (execOp b.eval o).run P w' = .ok (.value v) w') →
    wpX P ops pu Q S k l b w → wpAny P .any ops Q fuel listed a w := by
  intro fuel
  induction fuel with
  | zero =>
    intro k listed l a b w hf hs hl hm hcl hr hS hp hx
    have h0 : Region.ready .any ops listed = [] := by
      cases hrr : Region.ready .any ops listed with
      | nil => rfl
      | cons x xs =>
        have hx : x ∈ Region.ready .any ops listed := by rw [hrr]; exact List.mem_cons_self ..
        obtain ⟨h1, h2, _⟩ := (ready_iff hs).1 hx
        have := count_set (l := listed) (by omega) h2
        omega
    exact ⟨h0, orders_done hch hs hl hm hr hx h0⟩
  | succ fuel ih =>
    intro k listed l a b w hf hs hl hm hcl hr hS hp hx
    refine ⟨orders_done hch hs hl hm hr hx, fun i hi => ?_⟩
    obtain ⟨hilt, hiun, hidep⟩ := (ready_iff hs).1 hi
    have hcnt := count_set (l := listed) (by omega) hiun
    obtain ⟨o, ho⟩ : ∃ o, ops[i]? = some o := ⟨_, Array.getElem?_eq_getElem hilt⟩
    have hns : ∀ cs bb, o.op ≠ .select cs bb := fun cs bb => Region.noSelect_spec (chk_sel hch) i o cs bb ho
    have hlook : ∀ t ∈ o.looksAt ops, ¬ ∃ p ∈ pu, p.2 = t ∧ lk listed p.1 = false := by
      rintro t ht ⟨p, hp1, rfl, hp2⟩
      obtain ⟨_, _, _, _, hq⟩ := chk_pu hch p hp1
      have := anc_listed hcl 12 p.1 i hidep ((hq i o ho).2 ht)
      rw [this] at hp2
      cases hp2
    have hset : ∀ j, lk (listed.setIfInBounds i true) j = (lk listed j || Nat.beq i j) := fun j => lk_set (by omega)
    have hcl' : ∀ j, lk (listed.setIfInBounds i true) j = true → ∀ e ∈ depsOf ops j, lk (listed.setIfInBounds i true) e = true := by
      intro j hj e he
      rw [hset, Bool.or_eq_true] at hj
      rw [hset, Bool.or_eq_true]
      rcases hj with hj | hj
      · exact .inl (hcl j hj e he)
      · obtain rfl := Nat.eq_of_beq_eq_true hj
        exact .inl (hidep e he)
    unfold wpOp
    simp only [ho]
    by_cases hpu : pu.any (fun q => Nat.beq q.1 i) = true
    · obtain ⟨p, hp1, hpi⟩ := List.any_eq_true.1 hpu
      obtain rfl := Nat.eq_of_beq_eq_true hpi
      obtain ⟨o1, v, ho1, hv, hwb, hrun⟩ := hp p hp1 hiun
      obtain ⟨o2, ho2, hgn, hds, hq⟩ := chk_pu hch p hp1
      obtain rfl : o = o1 := by rw [ho] at ho1; exact Option.some.inj ho1
      obtain rfl : o = o2 := by rw [ho] at ho2; exact Option.some.inj ho2
      have hwant : Region.wanted o (yielded ops a.tmps) = true := (looks_ev hr hlook).2.trans hwb
      rw [if_pos hwant]
      refine .inl ?_
      unfold Oper.wp
      have hS1 : S w := hS.resolve_right fun h => by rw [h p hp1] at hiun; cases hiun
      rw [execOp_congr o hns (looks_ev hr hlook).1, hrun w hS1, Oper.upon_value, hds]
      refine ih k _ l _ b w (by omega) (by simpa using hs) hl ?_ hcl' ⟨hr.df, by simp [Act.put, hr.sz], fun x hx => ?_⟩ (.inl hS1) ?_ hx
      · intro j hj
        rw [hset, hm j hj]
        by_cases hj' : p.1 = j
        · subst hj'; simp [hpu]
        · have : Nat.beq p.1 j = false := by
            cases hb : Nat.beq p.1 j
            · rfl
            · exact absurd (Nat.eq_of_beq_eq_true hb) hj'
          rw [this]; simp
      · simp only [Act.put, Array.getElem?_setIfInBounds]
        split
        · rename_i he
          subst he
          rw [if_pos (by rw [hr.sz]; exact (Array.getElem?_eq_some_iff.1 hv).1), hv]
        · rename_i hne
          refine hr.tm x ?_
          rintro ⟨p', hp', rfl, hl'⟩
          refine hx ⟨p', hp', rfl, ?_⟩
          rw [hset, hl']
          cases hb : Nat.beq p.1 p'.1
          · rfl
          · exfalso
            have he := Nat.eq_of_beq_eq_true hb
            obtain ⟨o3, ho3, _, hds3, _⟩ := chk_pu hch p' hp'
            rw [← he, ho] at ho3
            obtain rfl := Option.some.inj ho3
            rw [hds] at hds3
            exact hne (Option.some.inj hds3)
      · intro p' hp' hl'
        rw [hset, Bool.or_eq_false_iff] at hl'
        exact hp p' hp' hl'.1
    · have hpu' : pu.any (fun q => Nat.beq q.1 i) = false := by
        cases hh : pu.any (fun q => Nat.beq q.1 i) with
        | true => exact absurd hh hpu
        | false => rfl
      cases k with
      | zero => exact hx.elim
      | succ k =>
      have hil : i ∈ Region.ready .any ops l := (ready_iff hl).2 ⟨hilt, by rw [hm i hilt, hiun, hpu']; rfl, fun e he => by
        rw [hm e (by have := chk_dep hch i e he; omega), hidep e he]; rfl⟩
      obtain ⟨o', ho', hx'⟩ := hx.2 i hil
      obtain rfl : o = o' := by rw [ho] at ho'; exact Option.some.inj ho'
      have key := step_rl (Q := Q) (bad' := fun x => ∃ p ∈ pu, p.2 = x ∧ lk (listed.setIfInBounds i true) p.1 = false) (K' := wpAny P .any ops Q fuel (listed.setIfInBounds i true)) hns hr hlook (fun x hx => .inr fun hbad => by
          obtain ⟨p, hp1, hp2, hp3⟩ := hbad
          refine hx ⟨p, hp1, hp2, ?_⟩
          rw [hset, hp3]
          cases hb : Nat.beq i p.1
          · rfl
          · exfalso
            refine hpu (List.any_eq_true.2 ⟨p, hp1, ?_⟩)
            rw [Nat.eq_of_beq_eq_true hb, Nat.beq_refl]) ?_ hx'
      · split
        · rename_i hw; rw [if_pos hw] at key; exact .inl key
        · rename_i hw; rw [if_neg hw] at key; exact key
      · rintro a' b' w' hr' ⟨u, df, rfl⟩ ⟨hS', hx2⟩
        have hS2 : S w' ∨ ∀ p ∈ pu, lk (listed.setIfInBounds i true) p.1 = true := hS'.imp id fun hl p hp1 => by
          rw [hset, Bool.or_eq_true]
          exact .inl (anc_listed hcl 12 p.1 i hidep (List.all_eq_true.1 hl p hp1))
        refine ih k _ _ a' _ w' (by omega) (by simpa using hs) (by simpa using hl) ?_ hcl' hr' hS2 ?_ hx2
        · intro j hj
          rw [lk_set (by omega), hset, hm j hj]
          cases lk listed j <;> cases Nat.beq i j <;> simp
        · intro p hp1 hl'
          rw [hset, Bool.or_eq_false_iff] at hl'
          obtain ⟨o1, v, ho1, hv, hwb, hrun⟩ := hp p hp1 hl'.1
          obtain ⟨o2, ho2, hgn, hds, hq⟩ := chk_pu hch p hp1
          obtain rfl : o1 = o2 := by rw [ho1] at ho2; exact Option.some.inj ho2
          have hno : ∀ d, o.dst = some d → d ≠ p.2 ∧ d ∉ o1.looksAt ops := by
            intro d hd
            rcases (hq i o ho).1 d hd with he | ⟨h3, h4⟩
            · subst he; simp at hl'
            · refine ⟨h3, ?_⟩
              rcases h4 with h4 | h4 | h4
              · rw [hpu'] at h4; cases h4
              · exact h4
              · have := anc_listed hcl 12 p.1 i hidep h4
                rw [hl'.1] at this; cases this
          refine ⟨o1, v, ho1, ?_, (wanted_put (ops := ops) o1 { b with defers := df } o.dst u fun d hd => (hno d hd).2).trans hwb, fun w'' hS'' => ?_⟩
          · cases hd : o.dst with
            | none => simpa [Act.put, hd] using hv
            | some d => simp only [Act.put]; rw [Array.getElem?_setIfInBounds_ne (hno d hd).1]; exact hv
          · rw [← hrun w'' hS'']
            congr 1
            refine execOp_congr o1 (fun cs bb => Region.noSelect_spec (chk_sel hch) p.1 o1 cs bb ho1) fun x hx => ?_
            refine (Act.eval_put (a := { b with defers := df }) fun d hd hxd => (hno d hd).2 ?_).trans (by cases x <;> rfl)
            subst hxd
            exact List.mem_append_left _ (List.mem_filterMap.2 ⟨.tmp d, by simpa using hx, rfl⟩)
def mskOrd (ops : Array Oper) (pu : List (Nat × Nat)) (m : Array Bool) : Bool :=
  Nat.beq m.size ops.size && (List.range ops.size).all fun i => lk m i == pu.any (fun q => Nat.beq q.1 i)
end
section
variable {P : Program} {Q : Exit → Act → World → Prop} {S : World → Prop} {w w0 : World} {L : List (Nat × Obj)} {R : List Row} {n : Nat} {f : Nat → Value}
theorem w_orders {id : Nat} {l : List Oper} (cx : Cxr w0 w L R) (hm : P.follows .mixedOrders = true) (pu : List (Nat × Nat)) (m : Array Bool) (S : World → Prop) (g : Nat → Value)
    (hch : chkOrd l.toArray pu = true) (hmk : mskOrd l.toArray pu m = true) (hn : ∀ p ∈ pu, p.2 < n) (hag : ∀ x, (∀ p ∈ pu, p.2 ≠ x) → f x = g x)
    (hwt : ∀ p ∈ pu, ∃ o, l[p.1]? = some o ∧ Region.wanted o (yielded l.toArray (St n g).tmps) = true)
    (hp : ∀ w', S w' → ∀ p ∈ pu, ∃ o, l[p.1]? = some o ∧ (execOp (ev n g) o).run P w' = .ok (.value (g p.2)) w')
    (h : ∀ w', Cxr w0 w' L R → Below w.heap.size w w' → w'.heap = w.heap → S w' ∧ wpX P l.toArray pu Q S (l.length + 1) m (St n g) w') : (Code.region id l.toArray true).wp P Q (St n f) w := by
  refine wp_region_any hm ?_
  obtain ⟨hS, hX⟩ := h w.drew cx.draw ⟨rfl, rfl, rfl, Nat.le_refl _, fun _ _ => rfl⟩ rfl
  unfold mskOrd at hmk
  simp only [Bool.and_eq_true, Nat.beq_eq, List.all_eq_true, List.mem_range, beq_iff_eq] at hmk
  have hsz : (Array.replicate l.toArray.size false).size = l.toArray.size := by simp
  have hf : ∀ j, lk (Array.replicate l.toArray.size false) j = false := by
    intro j
    unfold lk
    by_cases hj : j < l.length <;> simp [hj]
  refine orders_go hch _ _ _ m (St n f) (St n g) w.drew ?_ hsz hmk.1 (fun i hi => by rw [hf, hmk.2 i hi]; simp) (fun j hj => by rw [hf] at hj; cases hj) ⟨rfl, by simp [St], fun x hx => ?_⟩ (.inl hS) ?_ hX
  · have := List.count_le_length (a := false) (l := (Array.replicate l.toArray.size false).toList)
    simp at this ⊢
  · simp only [St, Array.getElem?_ofFn]
    split
    · rw [hag x fun p hp e => hx ⟨p, hp, e, hf _⟩]
    · rfl
  · intro p hp1 _
    obtain ⟨o, _, _, _⟩ := chk_pu hch p hp1
    obtain ⟨o', ho', _⟩ : ∃ o, l.toArray[p.1]? = some o ∧ True := ⟨o, by assumption, trivial⟩
    refine ⟨o', g p.2, ho', ?_, ?_, fun w' hw => ?_⟩
    · simp only [St, Array.getElem?_ofFn]
      rw [dif_pos (hn p hp1)]
    · obtain ⟨o2, h2, h3⟩ := hwt p hp1
      obtain rfl : o' = o2 := by rw [List.getElem?_toArray] at ho'; rw [ho'] at h2; exact Option.some.inj h2
      exact h3
    · obtain ⟨o2, h2, h3⟩ := hp w' hw p hp1
      obtain rfl : o' = o2 := by rw [List.getElem?_toArray] at ho'; rw [ho'] at h2; exact Option.some.inj h2
      rw [eval_St]; exact h3
variable {ops : Array Oper} {l : Array Bool} {k : Nat} {a : Act} {pu : List (Nat × Nat)}
theorem x_done (hr : Region.ready .any ops l = []) (h : Q .normal a w) : wpX P ops pu Q S (k + 1) l a w := by
  refine ⟨fun _ => h, ?_⟩
  rw [hr]; intro i hi; cases hi
theorem x_one {i : Nat} {o : Oper} (hr : Region.ready .any ops l = [i]) (ho : ops[i]? = some o) (h : wpList P ops (Fin0 fun a' w' => (S w' ∨ lateB ops pu i = true) ∧ wpX P ops pu Q S k (l.setIfInBounds i true) a' w') [o] a w) : wpX P ops pu Q S (k + 1) l a w := by
  refine ⟨fun h0 => ?_, ?_⟩
  · rw [hr] at h0; cases h0
  · rw [hr]
    intro j hj
    obtain rfl : j = i := by simpa using hj
    exact ⟨o, ho, h⟩
theorem x_two {i j : Nat} {o u : Oper} (hr : Region.ready .any ops l = [i, j]) (ho : ops[i]? = some o) (hu : ops[j]? = some u) (h : wpList P ops (Fin0 fun a' w' => (S w' ∨ lateB ops pu i = true) ∧ wpX P ops pu Q S k (l.setIfInBounds i true) a' w') [o] a w)
    (h' : wpList P ops (Fin0 fun a' w' => (S w' ∨ lateB ops pu j = true) ∧ wpX P ops pu Q S k (l.setIfInBounds j true) a' w') [u] a w) : wpX P ops pu Q S (k + 1) l a w := by
  refine ⟨fun h0 => ?_, ?_⟩
  · rw [hr] at h0; cases h0
  · rw [hr]
    intro x hx
    have hx' : x = i ∨ x = j := by simpa using hx
    rcases hx' with rfl | rfl
    · exact ⟨o, ho, h⟩
    · exact ⟨u, hu, h'⟩
theorem wnt_none {o : Oper} {t : Array Value} (hg : o.guard = none) : Region.wanted o (yielded ops t) = true := by simp [Region.wanted, hg]
theorem x_next {K : Act → World → Prop} (h : K a w) : wpList P ops (Fin0 K) [] a w := h
def wpPu (P : Program) (ops : Array Oper) (n : Nat) (S : World → Prop) (F : (Nat → Value) → Prop) : List (Nat × Nat) → (Nat → Value) → Prop
  | [], f => F f
  | (i, d) :: r, f => ∃ o v, ops[i]? = some o ∧ Region.wanted o (yielded ops (St n f).tmps) = true ∧ (∀ w', S w' → (execOp (ev n f) o).run P w' = .ok (.value v) w') ∧ wpPu P ops n S F r (upd f d v)
def incr : List (Nat × Nat) → Bool
  | [] => true
  | p :: r => r.all (fun q => Nat.blt p.1 q.1) && incr r
theorem upd_ne {f : Nat → Value} {d x : Nat} {v : Value} (h : x ≠ d) : upd f d v x = f x := by rw [upd_eq, if_neg h]
theorem upd_self {f : Nat → Value} {d : Nat} {v : Value} : upd f d v d = v := by rw [upd_eq, if_pos rfl]
theorem wpPu_spec {pu : List (Nat × Nat)} {F : (Nat → Value) → Prop} (hch : chkOrd ops pu = true) : ∀ (r : List (Nat × Nat)) (f : Nat → Value), (∀ p ∈ r, p ∈ pu) → incr r = true → wpPu P ops n S F r f →
    ∃ g, F g ∧ (∀ x, (∀ p ∈ r, p.2 ≠ x) → f x = g x) ∧ ∀ p ∈ r, ∃ o, ops[p.1]? = some o ∧ Region.wanted o (yielded ops (St n g).tmps) = true ∧ ∀ w', S w' → (execOp (ev n g) o).run P w' = .ok (.value (g p.2)) w' := by
  intro r
  induction r with
  | nil => intro f _ _ h; exact ⟨f, h, fun _ _ => rfl, fun p hp => by cases hp⟩
  | cons p r ih =>
    intro f hsub hinc h
    obtain ⟨i, d⟩ := p
    obtain ⟨o, v, ho, hw, hv, hr⟩ := h
    simp only [incr, Bool.and_eq_true, List.all_eq_true] at hinc
    obtain ⟨g, hF, hag, hall⟩ := ih _ (fun q hq => hsub q (List.mem_cons_of_mem _ hq)) hinc.2 hr
    obtain ⟨o1, ho1, _, hd1, hq1⟩ := chk_pu hch (i, d) (hsub _ (List.mem_cons_self ..))
    obtain rfl : o = o1 := by rw [ho] at ho1; exact Option.some.inj ho1
    have hno : ∀ q ∈ (i, d) :: r, q.2 ∉ o.looksAt ops := by
      intro q hq hm
      obtain ⟨_, _, _, _, hq2⟩ := chk_pu hch q (hsub q hq)
      have ha := (hq2 i o ho).2 hm
      have hlt : ∀ k a b, isAnc ops k a b = true → a < b := by
        intro k
        induction k with
        | zero => intro a b h; simp [isAnc] at h
        | succ k ihk =>
          intro a b h
          simp only [isAnc, List.any_eq_true, Bool.or_eq_true, beq_iff_eq] at h
          obtain ⟨e, he, rfl | h⟩ := h
          · exact chk_dep hch b e he
          · exact Nat.lt_trans (ihk a e h) (chk_dep hch b e he)
      have h1 := hlt _ _ _ ha
      rcases List.mem_cons.1 hq with rfl | hq
      · simp at h1
      · have := hinc.1 q hq
        simp at this
        omega
    have hd2 : ∀ q ∈ r, q.2 ≠ d := by
      intro q hq e
      obtain ⟨oq, hoq, _, hdq, hqq⟩ := chk_pu hch q (hsub q (List.mem_cons_of_mem _ hq))
      rcases (hqq i o ho).1 d hd1 with h1 | ⟨h1, _⟩
      · have := hinc.1 q hq
        simp at this
        omega
      · exact h1 e.symm
    have hfg : ∀ t ∈ o.looksAt ops, f t = g t := by
      intro t ht
      have h1 : t ≠ d := fun e => hno (i, d) (List.mem_cons_self ..) (by subst e; exact ht)
      rw [← hag t fun q hq e => hno q (List.mem_cons_of_mem _ hq) (by subst e; exact ht), upd_ne h1]
    have hrl : Rl (fun x => x ∉ o.looksAt ops) (St n f) (St n g) := ⟨rfl, by simp [St], fun x hx => by
      simp only [St, Array.getElem?_ofFn]
      split
      · rw [hfg x (Classical.not_not.1 hx)]
      · rfl⟩
    have hlk := looks_ev (ops := ops) hrl (fun t ht => fun h => h ht)
    refine ⟨g, hF, fun x hx => ?_, fun q hq => ?_⟩
    · rw [← hag x fun q hq => hx q (List.mem_cons_of_mem _ hq), upd_ne fun e => hx (i, d) (List.mem_cons_self ..) e.symm]
    · rcases List.mem_cons.1 hq with rfl | hq
      · refine ⟨o, ho, hlk.2.symm.trans hw, fun w' hS => ?_⟩
        have e : execOp (ev n g) o = execOp (ev n f) o := by
          rw [← eval_St, ← eval_St]
          exact (execOp_congr o (fun cs bb => Region.noSelect_spec (chk_sel hch) i o cs bb ho) hlk.1).symm
        have e2 : g d = v := by rw [← hag d hd2, upd_self]
        rw [e, e2]
        exact hv w' hS
      · exact hall q hq
theorem w_ord {id : Nat} {l : List Oper} {Ls : List (Nat × Obj)} (cx : Cxr w0 w L R) (cxS : Cxr w0 w Ls []) (hm : P.follows .mixedOrders = true) (pu : List (Nat × Nat)) (m : Array Bool)
    (hch : chkOrd l.toArray pu = true) (hmk : mskOrd l.toArray pu m = true) (hn : pu.all (fun p => Nat.blt p.2 n) = true) (hi : incr pu = true)
    (h : wpPu P l.toArray n (fun w' => Cxr w0 w' Ls []) (fun g => ∀ w', Cxr w0 w' L R → Below w.heap.size w w' → wpX P l.toArray pu Q (fun w' => Cxr w0 w' Ls []) (l.length + 1) m (St n g) w') pu f) : (Code.region id l.toArray true).wp P Q (St n f) w := by
  obtain ⟨g, hF, hag, hall⟩ := wpPu_spec hch pu f (fun _ h => h) hi h
  refine w_orders cx hm pu m (fun w' => Cxr w0 w' Ls []) g hch hmk (fun p hp => by have := List.all_eq_true.1 hn p hp; simpa using this) hag (fun p hp => ?_) (fun w' hS p hp => ?_) fun w' hc hb he => ⟨cxS.call hb, hF w' hc hb⟩
  · obtain ⟨o, h1, h2, _⟩ := hall p hp; exact ⟨o, by simpa using h1, h2⟩
  · obtain ⟨o, h1, _, h2⟩ := hall p hp; exact ⟨o, by simpa using h1, h2 w' hS⟩
theorem pu_one {F : (Nat → Value) → Prop} {i d : Nat} {r : List (Nat × Nat)} {o : Oper} {v : Value} (ho : ops[i]? = some o) (hw : Region.wanted o (yielded ops (St n f).tmps) = true)
    (hv : ∀ w', S w' → (execOp (ev n f) o).run P w' = .ok (.value v) w') (h : wpPu P ops n S F r (upd f d v)) : wpPu P ops n S F ((i, d) :: r) f := ⟨o, v, ho, hw, hv, h⟩
theorem pu_nil {F : (Nat → Value) → Prop} (h : F f) : wpPu P ops n S F [] f := h
theorem Cxr.pick1 (h : Cxr w0 w L R) (i : Nat) {p : Nat × Obj} (hi : L[i]? = some p) : Cxr w0 w [p] [] :=
  ⟨h.ext, fun q hq => by obtain rfl : q = p := by simpa using hq
                         exact h.own q (List.mem_of_getElem? hi), fun q hq => by obtain rfl : q = p := by simpa using hq
                                                                                 exact h.lo q (List.mem_of_getElem? hi), by simp, by simp, by simp, by simp⟩
theorem Cxr.pick2 (h : Cxr w0 w L R) (i j : Nat) {p q : Nat × Obj} (hi : L[i]? = some p) (hj : L[j]? = some q) (hij : Nat.beq i j = false) : Cxr w0 w [p, q] [] := by
  refine ⟨h.ext, fun x hx => ?_, fun x hx => ?_, ?_, by simp, by simp, by simp⟩
  · simp at hx
    rcases hx with rfl | rfl
    · exact h.own _ (List.mem_of_getElem? hi)
    · exact h.own _ (List.mem_of_getElem? hj)
  · simp at hx
    rcases hx with rfl | rfl
    · exact h.lo _ (List.mem_of_getElem? hi)
    · exact h.lo _ (List.mem_of_getElem? hj)
  · simp only [List.map_cons, List.map_nil, List.nodup_cons, List.mem_cons, List.not_mem_nil, or_false, not_false_eq_true, List.nodup_nil, and_true]
    intro e
    have h1 : (L.map (·.1))[i]? = some p.1 := by simp [hi]
    have h2 : (L.map (·.1))[j]? = some p.1 := by simp [hj, e]
    have hlt : i < (L.map (·.1)).length := (List.getElem?_eq_some_iff.1 h1).1
    have := (List.getElem?_inj hlt h.nd).1 (h1.trans h2.symm)
    subst this
    rw [Nat.beq_refl] at hij
    cases hij
end
end Go.Dk
end
section
namespace Go.Proofs.Ytmkihcdcgkdilaa
open Go Go.Dk
theorem sz3 : (Try.prog.info? 3).map (·.size) = some 1 := by kernel_rfl
theorem sz4 : (Try.prog.info? 4).map (·.size) = some 1 := by kernel_rfl
theorem sz5 : (Try.prog.info? 5).map (·.size) = some 1 := by kernel_rfl
theorem sz9 : (Try.prog.info? 9).map (·.size) = some 1 := by kernel_rfl
theorem sz24 : (Try.prog.info? 24).map (·.size) = some 1 := by kernel_rfl
theorem sz26 : (Try.prog.info? 26).map (·.size) = some 3 := by kernel_rfl
theorem sz28 : (Try.prog.info? 28).map (·.size) = some 4 := by kernel_rfl
theorem sz29 : (Try.prog.info? 29).map (·.size) = some 1 := by kernel_rfl
theorem sz30 : (Try.prog.info? 30).map (·.size) = some 1 := by kernel_rfl
theorem sz31 : (Try.prog.info? 31).map (·.size) = some 1 := by kernel_rfl
theorem sz33 : (Try.prog.info? 33).map (·.size) = some 13 := by kernel_rfl
theorem sz35 : (Try.prog.info? 35).map (·.size) = some 29 := by kernel_rfl
theorem sz43 : (Try.prog.info? 43).map (·.size) = some 2 := by kernel_rfl
theorem sz77 : (Try.prog.info? 77).map (·.size) = some 14 := by kernel_rfl
theorem sz112 : (Try.prog.info? 112).map (·.size) = some 3 := by kernel_rfl
theorem sz39 : (Try.prog.info? 39).map (·.size) = some 1 := by kernel_rfl
theorem fa26_0 : FA Try.prog 26 0 0 := fa_of (tt := 4) Try.underlying26 rfl sz4 rfl
theorem fa26_1 : FA Try.prog 26 1 1 := fa_of (tt := 9) Try.underlying26 rfl sz9 rfl
theorem fa26_2 : FA Try.prog 26 2 2 := fa_of (tt := 3) Try.underlying26 rfl sz3 rfl
theorem fa28_0 : FA Try.prog 28 0 0 := fa_of (tt := 3) Try.underlying28 rfl sz3 rfl
theorem fa28_1 : FA Try.prog 28 1 1 := fa_of (tt := 3) Try.underlying28 rfl sz3 rfl
theorem fa28_2 : FA Try.prog 28 2 2 := fa_of (tt := 3) Try.underlying28 rfl sz3 rfl
theorem fa28_3 : FA Try.prog 28 3 3 := fa_of (tt := 3) Try.underlying28 rfl sz3 rfl
theorem fa33_0 : FA Try.prog 33 0 0 := fa_of (tt := 3) Try.underlying33 rfl sz3 rfl
theorem fa33_1 : FA Try.prog 33 1 1 := fa_of (tt := 4) Try.underlying33 rfl sz4 rfl
theorem fa33_2 : FA Try.prog 33 2 2 := fa_of (tt := 26) Try.underlying33 rfl sz26 rfl
theorem fa33_3 : FA Try.prog 33 3 5 := fa_of (tt := 28) Try.underlying33 rfl sz28 rfl
theorem fa33_4 : FA Try.prog 33 4 9 := fa_of (tt := 9) Try.underlying33 rfl sz9 rfl
theorem fa33_5 : FA Try.prog 33 5 10 := fa_of (tt := 29) Try.underlying33 rfl sz29 rfl
theorem fa33_6 : FA Try.prog 33 6 11 := fa_of (tt := 30) Try.underlying33 rfl sz30 rfl
theorem fa33_7 : FA Try.prog 33 7 12 := fa_of (tt := 31) Try.underlying33 rfl sz31 rfl
theorem fa35_0 : FA Try.prog 35 0 0 := fa_of (tt := 3) Try.underlying35 rfl sz3 rfl
theorem fa35_1 : FA Try.prog 35 1 1 := fa_of (tt := 24) Try.underlying35 rfl sz24 rfl
theorem fa35_2 : FA Try.prog 35 2 2 := fa_of (tt := 3) Try.underlying35 rfl sz3 rfl
theorem fa35_3 : FA Try.prog 35 3 3 := fa_of (tt := 33) Try.underlying35 rfl sz33 rfl
theorem fa35_4 : FA Try.prog 35 4 16 := fa_of (tt := 33) Try.underlying35 rfl sz33 rfl
theorem fa77_0 : FA Try.prog 77 0 0 := fa_of (tt := 9) Try.underlying77 rfl sz9 rfl
theorem fa77_1 : FA Try.prog 77 1 1 := fa_of (tt := 33) Try.underlying77 rfl sz33 rfl
theorem fa112_0 : FA Try.prog 112 0 0 := fa_of (tt := 4) Try.underlying112 rfl sz4 rfl
theorem fa112_1 : FA Try.prog 112 1 1 := fa_of (tt := 9) Try.underlying112 rfl sz9 rfl
theorem fa112_2 : FA Try.prog 112 2 2 := fa_of (tt := 3) Try.underlying112 rfl sz3 rfl
theorem z3 : Zero Try.prog 3 [.int .i64 0] := zero_of (v := .int .i64 0) (by kernel_rfl) rfl
theorem z4 : Zero Try.prog 4 [.bool false] := zero_of (v := .bool false) (by kernel_rfl) rfl
theorem z24 : Zero Try.prog 24 [.slice none 0 0] := zero_of (v := .slice none 0 0) (by kernel_rfl) rfl
theorem z33 : Zero Try.prog 33 [.int .i64 0, .bool false, .bool false, .string ByteArray.empty, .int .i64 0, .int .i64 0, .int .i64 0, .int .i64 0, .int .i64 0, .string ByteArray.empty, .slice none 0 0, .slice none 0 0, .slice none 0 0] := zero_of (v := .agg #[.int .i64 0, .bool false, .bool false, .string ByteArray.empty, .int .i64 0, .int .i64 0, .int .i64 0, .int .i64 0, .int .i64 0, .string ByteArray.empty, .slice none 0 0, .slice none 0 0, .slice none 0 0]) (by kernel_rfl) rfl
theorem z35 : Zero Try.prog 35 [.int .i64 0, .slice none 0 0, .int .i64 0, .int .i64 0, .bool false, .bool false, .string ByteArray.empty, .int .i64 0, .int .i64 0, .int .i64 0, .int .i64 0, .int .i64 0, .string ByteArray.empty, .slice none 0 0, .slice none 0 0, .slice none 0 0, .int .i64 0, .bool false, .bool false, .string ByteArray.empty, .int .i64 0, .int .i64 0, .int .i64 0, .int .i64 0, .int .i64 0, .string ByteArray.empty, .slice none 0 0, .slice none 0 0, .slice none 0 0] := zero_of (v := .agg #[.int .i64 0, .slice none 0 0, .int .i64 0, .int .i64 0, .bool false, .bool false, .string ByteArray.empty, .int .i64 0, .int .i64 0, .int .i64 0, .int .i64 0, .int .i64 0, .string ByteArray.empty, .slice none 0 0, .slice none 0 0, .slice none 0 0, .int .i64 0, .bool false, .bool false, .string ByteArray.empty, .int .i64 0, .int .i64 0, .int .i64 0, .int .i64 0, .int .i64 0, .string ByteArray.empty, .slice none 0 0, .slice none 0 0, .slice none 0 0]) (by kernel_rfl) rfl
theorem z43 : Zero Try.prog 43 [.int .i64 0, .int .i64 0] := zero_of (v := .agg #[.int .i64 0, .int .i64 0]) (by kernel_rfl) rfl
theorem z77 : Zero Try.prog 77 [.string ByteArray.empty, .int .i64 0, .bool false, .bool false, .string ByteArray.empty, .int .i64 0, .int .i64 0, .int .i64 0, .int .i64 0, .int .i64 0, .string ByteArray.empty, .slice none 0 0, .slice none 0 0, .slice none 0 0] := zero_of (v := .agg #[.string ByteArray.empty, .int .i64 0, .bool false, .bool false, .string ByteArray.empty, .int .i64 0, .int .i64 0, .int .i64 0, .int .i64 0, .int .i64 0, .string ByteArray.empty, .slice none 0 0, .slice none 0 0, .slice none 0 0]) (by kernel_rfl) rfl
theorem z112 : Zero Try.prog 112 [.bool false, .string ByteArray.empty, .int .i64 0] := zero_of (v := .agg #[.bool false, .string ByteArray.empty, .int .i64 0]) (by kernel_rfl) rfl
theorem ei3 : EI Try.prog 3 1 8 := ei_of (z := .int .i64 0) (by kernel_rfl) rfl rfl rfl
theorem ei5 : EI Try.prog 5 1 1 := ei_of (z := .int .u8 0) (by kernel_rfl) rfl rfl rfl
theorem ei24 : EI Try.prog 24 1 24 := ei_of (z := .slice none 0 0) (by kernel_rfl) rfl rfl rfl
theorem ei33 : EI Try.prog 33 13 168 := ei_of (z := .agg #[.int .i64 0, .bool false, .bool false, .string ByteArray.empty, .int .i64 0, .int .i64 0, .int .i64 0, .int .i64 0, .int .i64 0, .string ByteArray.empty, .slice none 0 0, .slice none 0 0, .slice none 0 0]) (by kernel_rfl) rfl rfl rfl
theorem ei35 : EI Try.prog 35 29 376 := ei_of (z := .agg #[.int .i64 0, .slice none 0 0, .int .i64 0, .int .i64 0, .bool false, .bool false, .string ByteArray.empty, .int .i64 0, .int .i64 0, .int .i64 0, .int .i64 0, .int .i64 0, .string ByteArray.empty, .slice none 0 0, .slice none 0 0, .slice none 0 0, .int .i64 0, .bool false, .bool false, .string ByteArray.empty, .int .i64 0, .int .i64 0, .int .i64 0, .int .i64 0, .int .i64 0, .string ByteArray.empty, .slice none 0 0, .slice none 0 0, .slice none 0 0]) (by kernel_rfl) rfl rfl rfl
theorem ei43 : EI Try.prog 43 2 16 := ei_of (z := .agg #[.int .i64 0, .int .i64 0]) (by kernel_rfl) rfl rfl rfl
theorem ei77 : EI Try.prog 77 14 184 := ei_of (z := .agg #[.string ByteArray.empty, .int .i64 0, .bool false, .bool false, .string ByteArray.empty, .int .i64 0, .int .i64 0, .int .i64 0, .int .i64 0, .int .i64 0, .string ByteArray.empty, .slice none 0 0, .slice none 0 0, .slice none 0 0]) (by kernel_rfl) rfl rfl rfl
theorem ei112 : EI Try.prog 112 3 32 := ei_of (z := .agg #[.bool false, .string ByteArray.empty, .int .i64 0]) (by kernel_rfl) rfl rfl rfl
theorem z5 : Zero Try.prog 5 [.int .u8 0] := zero_of (v := .int .u8 0) (by kernel_rfl) rfl
end Go.Proofs.Ytmkihcdcgkdilaa
end
section
namespace Go.Dk
open Go Go.RowKit
structure Sc where
  kind : Int
  b : Bool
  neg : Bool
  dig : ByteArray
  exp : Int
  tk : Int
  td : Int
  tn : Int
  tz : Int
  text : ByteArray
inductive V where
  | mk (s : Sc) (bytes : List UInt8) (list : List V) (fields : List (ByteArray × V))
def V.sc : V → Sc | .mk s _ _ _ => s
def V.bytes : V → List UInt8 | .mk _ b _ _ => b
def V.list : V → List V | .mk _ _ l _ => l
def V.fields : V → List (ByteArray × V) | .mk _ _ _ f => f
theorem V.ind {p : V → Prop} (h : ∀ s b l f, (∀ v ∈ l, p v) → (∀ kv ∈ f, p kv.2) → p (.mk s b l f)) : ∀ v, p v := by
  intro v
  exact V.rec (motive_1 := p) (motive_2 := fun l => ∀ v ∈ l, p v) (motive_3 := fun f => ∀ kv ∈ f, p kv.2) (motive_4 := fun kv => p kv.2)
    (fun s b l f hl hf => h s b l f hl hf) (fun v hv => by cases hv) (fun v l hv hl u hu => by
      rcases List.mem_cons.1 hu with rfl | hu
      · exact hv
      · exact hl u hu) (fun v hv => by cases hv) (fun kv l hkv hl u hu => by
      rcases List.mem_cons.1 hu with rfl | hu
      · exact hkv
      · exact hl u hu) (fun k v hv => hv) v
def vrow (s : Sc) (bs ls fs : Value) : List Value :=
  [.int .i64 s.kind, .bool s.b, .bool s.neg, .string s.dig, .int .i64 s.exp, .int .i64 s.tk, .int .i64 s.td, .int .i64 s.tn, .int .i64 s.tz, .string s.text, bs, ls, fs]
def SliceAt (A : Nat → Prop) (s : Value) (n b o : Nat) : Prop := (n = 0 ∧ s = .slice none 0 0) ∨ ∃ ad cap, s = .slice (some ad) n cap ∧ n ≤ cap ∧ (0 < n → ad = ⟨b, o, none⟩ ∧ A b)
theorem SliceAt.inA {A : Nat → Prop} {s : Value} {n b o : Nat} (h : SliceAt A s n b o) (hn : 0 < n) : A b := by
  rcases h with ⟨h0, _⟩ | ⟨_, _, _, _, h⟩
  · omega
  · exact (h hn).2
def byteVal (x : UInt8) : Value := .int .u8 x.toNat
def RepB (A : Nat → Prop) (w : World) (s : Value) (l : List UInt8) : Prop := ∃ b o, SliceAt A s l.length b o ∧ RowAt w b o (l.map byteVal)
mutual
def RepV (A : Nat → Prop) (w : World) : V → List Value → Prop
  | .mk s bytes list fields, l => ∃ bs ls fs, l = vrow s bs ls fs ∧ RepB A w bs bytes ∧ (∃ b o, SliceAt A ls list.length b o ∧ RepLs A w b o list) ∧ (∃ b o, SliceAt A fs fields.length b o ∧ RepFs A w b o fields)
def RepLs (A : Nat → Prop) (w : World) (b : Nat) (o : Nat) : List V → Prop
  | [] => True
  | v :: vs => (∃ l, RowAt w b o l ∧ RepV A w v l) ∧ RepLs A w b (o + 13) vs
def RepFs (A : Nat → Prop) (w : World) (b : Nat) (o : Nat) : List (ByteArray × V) → Prop
  | [] => True
  | kv :: fs => RepP A w b o kv ∧ RepFs A w b (o + 14) fs
def RepP (A : Nat → Prop) (w : World) (b : Nat) (o : Nat) : ByteArray × V → Prop
  | (k, v) => ∃ l, RowAt w b o (.string k :: l) ∧ RepV A w v l
end
def RepL (A : Nat → Prop) (w : World) (s : Value) (l : List V) : Prop := ∃ b o, SliceAt A s l.length b o ∧ RepLs A w b o l
def RepF (A : Nat → Prop) (w : World) (s : Value) (l : List (ByteArray × V)) : Prop := ∃ b o, SliceAt A s l.length b o ∧ RepFs A w b o l
theorem RepV.open {A : Nat → Prop} {w : World} {v : V} {l : List Value} (h : RepV A w v l) : ∃ bs ls fs, l = vrow v.sc bs ls fs ∧ RepB A w bs v.bytes ∧ RepL A w ls v.list ∧ RepF A w fs v.fields := by
  cases v
  simpa [RepV, RepL, RepF, V.sc, V.bytes, V.list, V.fields] using h
theorem RepV.mk {A : Nat → Prop} {w : World} {v : V} {bs ls fs : Value} (h1 : RepB A w bs v.bytes) (h2 : RepL A w ls v.list) (h3 : RepF A w fs v.fields) : RepV A w v (vrow v.sc bs ls fs) := by
  cases v
  simp only [RepV]
  exact ⟨bs, ls, fs, rfl, h1, h2, h3⟩
def Keeps (A : Nat → Prop) (w w' : World) : Prop := ∀ b, A b → w'.heap[b]? = w.heap[b]?
theorem RowAt.keep {w w' : World} {b o : Nat} {l : List Value} (h : RowAt w b o l) (hb : w'.heap[b]? = w.heap[b]?) : RowAt w' b o l := fun j x hj => by
  rw [World.cell?_of_block (w := w) (a := ⟨b, o + j, none⟩) hb]; exact h j x hj
theorem SliceAt.mono {A A' : Nat → Prop} {s : Value} {n b o : Nat} (h : SliceAt A s n b o) (hA : ∀ b, A b → A' b) : SliceAt A' s n b o := by
  rcases h with h | ⟨ad, cap, h1, h2, h3⟩
  · exact .inl h
  · exact .inr ⟨ad, cap, h1, h2, fun hn => ⟨(h3 hn).1, hA _ (h3 hn).2⟩⟩
theorem RepB.mono {A A' : Nat → Prop} {w w' : World} {s : Value} {l : List UInt8} (hA : ∀ b, A b → A' b) (hk : Keeps A w w') (h : RepB A w s l) : RepB A' w' s l := by
  obtain ⟨b, o, hs, hr⟩ := h
  refine ⟨b, o, hs.mono hA, ?_⟩
  rcases Nat.eq_zero_or_pos l.length with h0 | h0
  · have : l = [] := List.eq_nil_of_length_eq_zero h0
    subst this
    intro j x hj; simp at hj
  · exact hr.keep (hk b (hs.inA h0))
theorem RepLs.mono' {A A' : Nat → Prop} {w w' : World} {b : Nat} (hk : w'.heap[b]? = w.heap[b]?) (l : List V) (ih : ∀ v ∈ l, ∀ r, RepV A w v r → RepV A' w' v r) : ∀ o, RepLs A w b o l → RepLs A' w' b o l := by
  induction l with
  | nil => intro o _; simp [RepLs]
  | cons v vs ihl =>
    intro o h
    simp only [RepLs] at h ⊢
    obtain ⟨⟨r, hr, hv⟩, hs⟩ := h
    exact ⟨⟨r, hr.keep hk, ih v (by simp) r hv⟩, ihl (fun v hv => ih v (by simp [hv])) _ hs⟩
theorem RepFs.mono' {A A' : Nat → Prop} {w w' : World} {b : Nat} (hk : w'.heap[b]? = w.heap[b]?) (l : List (ByteArray × V)) (ih : ∀ kv ∈ l, ∀ r, RepV A w kv.2 r → RepV A' w' kv.2 r) : ∀ o, RepFs A w b o l → RepFs A' w' b o l := by
  induction l with
  | nil => intro o _; simp [RepFs]
  | cons kv vs ihl =>
    intro o h
    obtain ⟨k, v⟩ := kv
    simp only [RepFs, RepP] at h ⊢
    obtain ⟨⟨r, hr, hv⟩, hs⟩ := h
    exact ⟨⟨r, hr.keep hk, ih (k, v) (by simp) r hv⟩, ihl (fun v hv => ih v (by simp [hv])) _ hs⟩
theorem RepV.mono {A A' : Nat → Prop} {w w' : World} (hA : ∀ b, A b → A' b) (hk : Keeps A w w') : ∀ (v : V) (l : List Value), RepV A w v l → RepV A' w' v l := by
  intro v
  induction v using V.ind with
  | h s b l f ihl ihf =>
    intro row h
    simp only [RepV] at h ⊢
    obtain ⟨bs, ls, fs, e, h1, ⟨b2, o2, s2, r2⟩, ⟨b3, o3, s3, r3⟩⟩ := h
    refine ⟨bs, ls, fs, e, h1.mono hA hk, ⟨b2, o2, s2.mono hA, ?_⟩, ⟨b3, o3, s3.mono hA, ?_⟩⟩
    · rcases Nat.eq_zero_or_pos l.length with h0 | h0
      · have : l = [] := List.eq_nil_of_length_eq_zero h0
        subst this; simp [RepLs]
      · exact RepLs.mono' (hk _ (s2.inA h0)) l (fun v hv r => ihl v hv r) _ r2
    · rcases Nat.eq_zero_or_pos f.length with h0 | h0
      · have : f = [] := List.eq_nil_of_length_eq_zero h0
        subst this; simp [RepFs]
      · exact RepFs.mono' (hk _ (s3.inA h0)) f (fun v hv r => ihf v hv r) _ r3
theorem RepL.mono {A A' : Nat → Prop} {w w' : World} (hA : ∀ b, A b → A' b) (hk : Keeps A w w') {s : Value} {l : List V} (h : RepL A w s l) : RepL A' w' s l := by
  obtain ⟨b, o, hs, hr⟩ := h
  refine ⟨b, o, hs.mono hA, ?_⟩
  rcases Nat.eq_zero_or_pos l.length with h0 | h0
  · have : l = [] := List.eq_nil_of_length_eq_zero h0
    subst this; simp [RepLs]
  · exact RepLs.mono' (hk _ (hs.inA h0)) l (fun v _ r => RepV.mono hA hk v r) _ hr
theorem RepF.mono {A A' : Nat → Prop} {w w' : World} (hA : ∀ b, A b → A' b) (hk : Keeps A w w') {s : Value} {l : List (ByteArray × V)} (h : RepF A w s l) : RepF A' w' s l := by
  obtain ⟨b, o, hs, hr⟩ := h
  refine ⟨b, o, hs.mono hA, ?_⟩
  rcases Nat.eq_zero_or_pos l.length with h0 | h0
  · have : l = [] := List.eq_nil_of_length_eq_zero h0
    subst this; simp [RepFs]
  · exact RepFs.mono' (hk _ (hs.inA h0)) l (fun v _ r => RepV.mono hA hk v.2 r) _ hr
theorem RepLs.get {A : Nat → Prop} {w : World} {b : Nat} : ∀ (l : List V) (o i : Nat) (v : V), RepLs A w b o l → l[i]? = some v → ∃ r, RowAt w b (o + i * 13) r ∧ RepV A w v r
  | [], _, _, _, _, h => by simp at h
  | x :: l, o, 0, v, hr, h => by
    simp at h; subst h
    simp only [RepLs] at hr
    simpa using hr.1
  | x :: l, o, i + 1, v, hr, h => by
    simp only [RepLs] at hr
    obtain ⟨r, h1, h2⟩ := RepLs.get l (o + 13) i v hr.2 (by simpa using h)
    exact ⟨r, by rw [show o + (i + 1) * 13 = o + 13 + i * 13 by omega]; exact h1, h2⟩
theorem RepFs.get {A : Nat → Prop} {w : World} {b : Nat} : ∀ (l : List (ByteArray × V)) (o i : Nat) (kv : ByteArray × V), RepFs A w b o l → l[i]? = some kv → ∃ r, RowAt w b (o + i * 14) (.string kv.1 :: r) ∧ RepV A w kv.2 r
  | [], _, _, _, _, h => by simp at h
  | (k, x) :: l, o, 0, v, hr, h => by
    simp at h; subst h
    simp only [RepFs, RepP] at hr
    simpa using hr.1
  | x :: l, o, i + 1, v, hr, h => by
    simp only [RepFs] at hr
    obtain ⟨r, h1, h2⟩ := RepFs.get l (o + 14) i v hr.2 (by simpa using h)
    exact ⟨r, by rw [show o + (i + 1) * 14 = o + 14 + i * 14 by omega]; exact h1, h2⟩
theorem RowAt.lt {w : World} {b o : Nat} {l : List Value} (h : RowAt w b o l) (hl : l ≠ []) : b < w.heap.size := by
  cases l with
  | nil => exact absurd rfl hl
  | cons x l => exact block_lt_of_cell (h 0 x rfl)
theorem RowAt.tail {w : World} {b o : Nat} {x : Value} {l : List Value} (h : RowAt w b o (x :: l)) : RowAt w b (o + 1) l := fun j y hj => by
  rw [show o + 1 + j = o + (j + 1) by omega]; exact h (j + 1) y (by simpa using hj)
end Go.Dk
end
section
namespace Go.Dk
open Go Go.RowKit
theorem toList_inj (a b : ByteArray) : a.toList = b.toList ↔ a = b := by
  have := bytes_eq a b
  by_cases h : a = b
  · simp [h]
  · simp only [h, decide_false, beq_eq_false_iff_ne] at this
    exact ⟨fun e => absurd e this, fun e => absurd e h⟩
section
variable {P : Program} {o : Oper} {w : World} {ρ : Operand → Value}
theorem v_agg {op : BinOp} {t t' : TypeId} {x y : Operand} {xs ys : Array Value} {r : Bool} (hg : P.eqGuardType P.depth t = false) (h : ∀ w, (binOp op t (.agg xs) (.agg ys)).run P w = .ok (.bool r) w) (ho : o.op = .binOp op t x y t')
    (hx : ρ x = .agg xs) (hy : ρ y = .agg ys) : (execOp ρ o).run P w = .ok (.value (.bool r)) w := by
  unfold execOp; rw [ho]
  simp [hx, hy, run_eqGuard_agg w op t x y xs ys hg, h w]
theorem v_build {t : TypeId} {ps : Array (Nat × Operand)} {qs : List (Nat × Value)} {v : Value} (h : ∀ w, (Instr.build t qs.toArray).run P w = .ok v w) (ho : o.op = .build t ps) (hq : ps.toList.map (fun p => (p.1, ρ p.2)) = qs) : (execOp ρ o).run P w = .ok (.value v) w := by
  unfold execOp; rw [ho]
  have e : ps.map (fun p => (p.1, ρ p.2)) = qs.toArray := by rw [← hq]; apply Array.ext'; simp
  simp [e, h w]
end
theorem RowAt.r3 {w : World} {b o : Nat} {l : List Value} (k : Nat) {x0 x1 x2 : Value} (h : RowAt w b o l) (h0 : l[k]? = some x0) (h1 : l[k + 1]? = some x1) (h2 : l[k + 2]? = some x2) : RowAt w b (o + k) [x0, x1, x2] := by
  intro j y hj
  match j, hj with
  | 0, hj => cases hj; exact h k _ h0
  | 1, hj => cases hj; rw [Nat.add_assoc]; exact h _ _ h1
  | 2, hj => cases hj; rw [Nat.add_assoc]; exact h _ _ h2
theorem RowAt.sub {w : World} {b o : Nat} {l : List Value} (k : Nat) {l' : List Value} (h : RowAt w b o l) (h' : (l.drop k).take l'.length = l') : RowAt w b (o + k) l' := by
  intro j y hj
  rw [Nat.add_assoc]
  refine h _ _ ?_
  rw [← h'] at hj
  rw [List.getElem?_take] at hj
  split at hj
  · rwa [List.getElem?_drop] at hj
  · cases hj
theorem RowAt.r4 {w : World} {b o : Nat} {l : List Value} (k : Nat) {x0 x1 x2 x3 : Value} (h : RowAt w b o l) (h0 : l[k]? = some x0) (h1 : l[k + 1]? = some x1) (h2 : l[k + 2]? = some x2) (h3 : l[k + 3]? = some x3) : RowAt w b (o + k) [x0, x1, x2, x3] := by
  intro j y hj
  match j, hj with
  | 0, hj => cases hj; exact h k _ h0
  | 1, hj => cases hj; rw [Nat.add_assoc]; exact h _ _ h1
  | 2, hj => cases hj; rw [Nat.add_assoc]; exact h _ _ h2
  | 3, hj => cases hj; rw [Nat.add_assoc]; exact h _ _ h3
theorem RowAt.rv {w : World} {b o : Nat} {l : List Value} (k : Nat) {s : Sc} {bs ls fs : Value} (h : RowAt w b o l) (h' : (l.drop k).take 13 = vrow s bs ls fs) : RowAt w b (o + k) (vrow s bs ls fs) := h.sub k h'
end Go.Dk
namespace Go.Proofs.Ytmkihcdcgkdilaa
open Go Go.Dk Go.RowKit
theorem eqg26 : Try.prog.eqGuardType Try.prog.depth 26 = false := by kernel_rfl
theorem eqg28 : Try.prog.eqGuardType Try.prog.depth 28 = false := by kernel_rfl
theorem ne26 (a1 b1 : Bool) (a2 b2 : ByteArray) (a3 b3 : Int) (w : World) :
    (binOp .neq 26 (.agg #[.bool a1, .string a2, .int .i64 a3]) (.agg #[.bool b1, .string b2, .int .i64 b3])).run Try.prog w = .ok (.bool (!(a1 == b1 && (decide (a2 = b2) && a3 == b3)))) w := by
  go_simp
  by_cases h1 : a1 = b1 <;> by_cases h2 : a2 = b2 <;> by_cases h3 : a3 = b3 <;> simp [h1, h2, h3, toList_inj]
theorem ne28 (a1 b1 a2 b2 a3 b3 a4 b4 : Int) (w : World) :
    (binOp .neq 28 (.agg #[.int .i64 a1, .int .i64 a2, .int .i64 a3, .int .i64 a4]) (.agg #[.int .i64 b1, .int .i64 b2, .int .i64 b3, .int .i64 b4])).run Try.prog w = .ok (.bool (!(a1 == b1 && (a2 == b2 && (a3 == b3 && a4 == b4))))) w := by
  go_simp
  by_cases h1 : a1 = b1 <;> by_cases h2 : a2 = b2 <;> by_cases h3 : a3 = b3 <;> by_cases h4 : a4 = b4 <;> simp [h1, h2, h3, h4]
theorem bd26 (w : World) : (Instr.build 26 ([] : List (Nat × Value)).toArray).run Try.prog w = .ok (.agg #[.bool false, .string ByteArray.empty, .int .i64 0]) w := by
  go_simp
  rfl
theorem bd28 (w : World) : (Instr.build 28 ([] : List (Nat × Value)).toArray).run Try.prog w = .ok (.agg #[.int .i64 0, .int .i64 0, .int .i64 0, .int .i64 0]) w := by
  go_simp
end Go.Proofs.Ytmkihcdcgkdilaa
end
section
namespace Go.Dk
open Go Go.RowKit
def Val (w : World) (v : V) (l : List Value) : Prop := RepV (fun b => b < w.heap.size) w v l
def Lst (w : World) (s : Value) (l : List V) : Prop := RepL (fun b => b < w.heap.size) w s l
def Fld (w : World) (s : Value) (l : List (ByteArray × V)) : Prop := RepF (fun b => b < w.heap.size) w s l
theorem keeps_of_below {w w' : World} (h : Below w.heap.size w w') : Keeps (fun b => b < w.heap.size) w w' := fun b hb => h.block b hb
theorem Val.up {w w' : World} (h : Below w.heap.size w w') {v : V} {l : List Value} (hv : Val w v l) : Val w' v l :=
  RepV.mono (fun _ hb => Nat.lt_of_lt_of_le hb h.size) (keeps_of_below h) v l hv
theorem Lst.up {w w' : World} (h : Below w.heap.size w w') {s : Value} {l : List V} (hv : Lst w s l) : Lst w' s l :=
  RepL.mono (fun _ hb => Nat.lt_of_lt_of_le hb h.size) (keeps_of_below h) hv
theorem Fld.up {w w' : World} (h : Below w.heap.size w w') {s : Value} {l : List (ByteArray × V)} (hv : Fld w s l) : Fld w' s l :=
  RepF.mono (fun _ hb => Nat.lt_of_lt_of_le hb h.size) (keeps_of_below h) hv
theorem RowAt.up {w w' : World} (h : Below w.heap.size w w') {b o : Nat} {l : List Value} (hr : RowAt w b o l) : RowAt w' b o l := by
  intro j x hj
  have hc := hr j x hj
  have hlt : b < w.heap.size := block_lt_of_cell hc
  rw [World.cell?_of_block (w := w) (a := ⟨b, o + j, none⟩) (h.block b hlt)]
  exact hc
theorem SliceAt.form {A : Nat → Prop} {s : Value} {n b o : Nat} (h : SliceAt A s n b o) : ∃ a c, s = .slice a n c ∧ (0 < n → a = some ⟨b, o, none⟩) := by
  rcases h with ⟨rfl, rfl⟩ | ⟨ad, cap, rfl, _, h⟩
  · exact ⟨none, 0, rfl, fun h => absurd h (by omega)⟩
  · exact ⟨_, cap, rfl, fun hn => by rw [(h hn).1]⟩
theorem Lst.open {w : World} {s : Value} {l : List V} (h : Lst w s l) : ∃ a c b o, s = .slice a l.length c ∧ (0 < l.length → a = some ⟨b, o, none⟩) ∧ ∀ i v, l[i]? = some v → ∃ r, RowAt w b (o + i * 13) r ∧ Val w v r := by
  obtain ⟨b, o, hs, hr⟩ := h
  obtain ⟨a, c, rfl, ha⟩ := hs.form
  exact ⟨a, c, b, o, rfl, ha, fun i v hi => RepLs.get l o i v hr hi⟩
theorem Fld.open {w : World} {s : Value} {l : List (ByteArray × V)} (h : Fld w s l) : ∃ a c b o, s = .slice a l.length c ∧ (0 < l.length → a = some ⟨b, o, none⟩) ∧ ∀ i kv, l[i]? = some kv → ∃ r, RowAt w b (o + i * 14) (.string kv.1 :: r) ∧ Val w kv.2 r := by
  obtain ⟨b, o, hs, hr⟩ := h
  obtain ⟨a, c, rfl, ha⟩ := hs.form
  exact ⟨a, c, b, o, rfl, ha, fun i v hi => RepFs.get l o i v hr hi⟩
theorem Val.open {w : World} {v : V} {l : List Value} (h : Val w v l) : ∃ bs ls fs, l = vrow v.sc bs ls fs ∧ RepB (fun b => b < w.heap.size) w bs v.bytes ∧ Lst w ls v.list ∧ Fld w fs v.fields := RepV.open h
theorem Val.len {w : World} {v : V} {l : List Value} (h : Val w v l) : l.length = 13 := by
  obtain ⟨bs, ls, fs, rfl, _⟩ := h.open
  rfl
theorem RepB.form {A : Nat → Prop} {w : World} {s : Value} {l : List UInt8} (h : RepB A w s l) : ∃ a c b o, s = .slice a l.length c ∧ (0 < l.length → a = some ⟨b, o, none⟩) ∧ RowAt w b o (l.map byteVal) := by
  obtain ⟨b, o, hs, hr⟩ := h
  obtain ⟨a, c, rfl, ha⟩ := hs.form
  exact ⟨a, c, b, o, rfl, ha, hr⟩
theorem Val.oneCell {w : World} {v : V} {l : List Value} (h : Val w v l) : l.all (·.oneCell') = true := by
  obtain ⟨bs, ls, fs, rfl, h1, h2, h3⟩ := h.open
  obtain ⟨_, _, _, _, rfl, _⟩ := h1.form
  obtain ⟨_, _, _, _, rfl, _⟩ := h2.open
  obtain ⟨_, _, _, _, rfl, _⟩ := h3.open
  rfl
def RowsV (A : Nat → Prop) (w : World) : List V → List (List Value) → Prop
  | [], [] => True
  | v :: vs, r :: rs => RepV A w v r ∧ RowsV A w vs rs
  | _, _ => False
theorem RowsV.snoc {A : Nat → Prop} {w : World} {v : V} {r : List Value} : ∀ (vs : List V) (rs : List (List Value)), RowsV A w vs rs → RepV A w v r → RowsV A w (vs ++ [v]) (rs ++ [r])
  | [], [], _, h => ⟨h, trivial⟩
  | _ :: vs, _ :: rs, h, hv => ⟨h.1, RowsV.snoc vs rs h.2 hv⟩
  | [], _ :: _, h, _ => h.elim
  | _ :: _, [], h, _ => h.elim
theorem RowsV.reps {A A' : Nat → Prop} {w w' : World} {b : Nat} (hA : ∀ b, A b → A' b) (hk : Keeps A w w') : ∀ (vs : List V) (rs : List (List Value)) (o : Nat), RowsV A w vs rs → RowAt w' b o rs.flatten → RepLs A' w' b o vs ∧ rs.flatten.length = vs.length * 13
  | [], [], _, _, _ => ⟨trivial, rfl⟩
  | v :: vs, r :: rs, o, h, hr => by
    have hlen : r.length = 13 := by obtain ⟨bs, ls, fs, rfl, _⟩ := RepV.open h.1; rfl
    have h1 : RowAt w' b o r := fun j x hj => hr j x (by
      rw [List.flatten_cons, List.getElem?_append_left (List.getElem?_eq_some_iff.1 hj).1]; exact hj)
    have h2 : RowAt w' b (o + 13) rs.flatten := fun j x hj => by
      have := hr (13 + j) x (by rw [List.flatten_cons, List.getElem?_append_right (by omega), hlen, Nat.add_sub_cancel_left]; exact hj)
      rwa [← Nat.add_assoc] at this
    obtain ⟨h3, h4⟩ := RowsV.reps hA hk vs rs (o + 13) h.2 h2
    refine ⟨⟨⟨r, h1, RepV.mono hA hk v r h.1⟩, h3⟩, ?_⟩
    rw [List.flatten_cons, List.length_append, hlen, h4, List.length_cons]; omega
  | [], _ :: _, _, h, _ => h.elim
  | _ :: _, [], _, h, _ => h.elim
theorem lst_of_row {B : Nat} {w0 w : World} {v : Value} {n : Nat} {e : Nat} {vs : List V} {rs : List (List Value)} {A : Nat → Prop} (row : w.ownsRow B e 13 v n rs.flatten) (hn : n = vs.length) (hr : RowsV A w0 vs rs) (hA : ∀ b, A b → b < w.heap.size) (hk : Keeps A w0 w) : Lst w v vs := by
  subst hn
  rcases row.2 with ⟨rfl, h0⟩ | ⟨g, cap, cur, rfl, hb, hg, hle, _, hcs, htake⟩
  · have : vs = [] := List.eq_nil_of_length_eq_zero h0
    subst this
    exact ⟨0, 0, .inl ⟨rfl, rfl⟩, trivial⟩
  · have hrow : RowAt w g 0 rs.flatten := by
      intro j x hj
      rw [cell_of_row w g (0 + j) cur _ _ hg]
      rw [← htake] at hj
      rw [List.getElem?_take] at hj
      split at hj
      · simpa using hj
      · cases hj
    refine ⟨g, 0, .inr ⟨_, cap, rfl, hle, fun _ => ⟨rfl, ?_⟩⟩, (RowsV.reps hA hk vs rs 0 hr hrow).1⟩
    exact (Array.getElem?_eq_some_iff.1 hg).1
theorem Cxr.lst {w0 w : World} {L : List (Nat × Obj)} {R : List Row} {v : Value} {n : Nat} {e : Nat} {vs : List V} {rs : List (List Value)} (cx : Cxr w0 w L (⟨e, 13, v, n, rs.flatten⟩ :: R)) (hn : n = vs.length) (hr : RowsV (fun b => b < w0.heap.size) w0 vs rs) : Lst w v vs :=
  lst_of_row (cx.rows _ (List.mem_cons_self ..)) hn hr (fun _ hb => Nat.lt_of_lt_of_le hb cx.ext.size) (fun b hb => cx.ext.block b hb)
theorem RepLs.rows {A : Nat → Prop} {w : World} {b : Nat} : ∀ (vs : List V) (o : Nat), RepLs A w b o vs → ∃ rs, RowsV A w vs rs ∧ RowAt w b o rs.flatten ∧ rs.flatten.length = vs.length * 13 ∧ rs.flatten.all (·.oneCell') = true
  | [], _, _ => ⟨[], trivial, fun j x hj => by simp at hj, rfl, rfl⟩
  | v :: vs, o, h => by
    simp only [RepLs] at h
    obtain ⟨⟨r, hr, hv⟩, hs⟩ := h
    obtain ⟨rs, h1, h2, h3, h4⟩ := RepLs.rows vs (o + 13) hs
    have hlen : r.length = 13 := by obtain ⟨bs, ls, fs, rfl, _⟩ := RepV.open hv; rfl
    have hone : r.all (·.oneCell') = true := by
      obtain ⟨bs, ls, fs, rfl, ⟨_, _, h5, _⟩, ⟨_, _, h6, _⟩, ⟨_, _, h7, _⟩⟩ := RepV.open hv
      obtain ⟨_, _, rfl, _⟩ := h5.form
      obtain ⟨_, _, rfl, _⟩ := h6.form
      obtain ⟨_, _, rfl, _⟩ := h7.form
      rfl
    refine ⟨r :: rs, ⟨hv, h1⟩, ?_, ?_, ?_⟩
    · intro j x hj
      rw [List.flatten_cons] at hj
      rcases Nat.lt_or_ge j r.length with hlt | hge
      · rw [List.getElem?_append_left hlt] at hj; exact hr j x hj
      · rw [List.getElem?_append_right hge] at hj
        have := h2 (j - r.length) x hj
        rwa [show o + 13 + (j - r.length) = o + j by omega] at this
    · rw [List.flatten_cons, List.length_append, hlen, h3, List.length_cons]; omega
    · rw [List.flatten_cons, List.all_append, hone, h4]; rfl
theorem RowsV.mono {A A' : Nat → Prop} {w w' : World} (hA : ∀ b, A b → A' b) (hk : Keeps A w w') : ∀ (vs : List V) (rs : List (List Value)), RowsV A w vs rs → RowsV A' w' vs rs
  | [], [], _ => trivial
  | _ :: vs, _ :: rs, h => ⟨RepV.mono hA hk _ _ h.1, RowsV.mono hA hk vs rs h.2⟩
  | [], _ :: _, h => h.elim
  | _ :: _, [], h => h.elim
section
variable {P : Program} {o : Oper} {w : World} {ρ : Operand → Value}
theorem equalIn_nil (d : Nat) {t e : TypeId} (a : Option Addr) (l c : Nat) (hu : P.underlying t = some (.slice e)) : (Op.equalIn (d + 1) t (.slice a l c) (.slice none 0 0)).run P w = .ok a.isNone w := by
  cases a <;> simp [Op.equalIn, run_underlying hu]
theorem v_slNil {t t' e : TypeId} {x y : Operand} {a : Option Addr} {l c : Nat} (ho : o.op = .binOp .eql t x y t') (hx : ρ x = .slice a l c) (hy : ρ y = .slice none 0 0) (hu : P.underlying t = some (.slice e)) :
    (execOp ρ o).run P w = .ok (.value (.bool a.isNone)) w := by
  unfold execOp; rw [ho]
  simp only [hx, hy]
  have h1 : (Op.equal t (.slice a l c) (.slice none 0 0)).run P w = .ok a.isNone w := equalIn_nil 9999 a l c hu
  simp [eqGuard, binOp, h1]
end
/-! ### a region that only reads and draws its order -/
section
variable {P : Program} {ops : Array Oper} {Q : Act → Prop} {rest : List Oper} {o : Oper} {n : Nat} {f : Nat → Value} {w w0 : World} {L : List (Nat × Obj)} {R : List Row}
theorem t_val {v : Value} {d : Nat} (hg : o.guard = none) (hd : o.dst = some d) (hv : (execOp (ev n f) o).run P w = .ok (.value v) w) (h : wpStill P ops w Q rest (St n (upd f d v))) : wpStill P ops w Q (o :: rest) (St n f) := by
  unfold wpStill
  rw [if_pos (by simp [Region.wanted, hg])]
  unfold Oper.still
  rw [eval_St, hv, Oper.stillUpon_value, hd, put_St]
  exact h
theorem t_nil (h : Q (St n f)) : wpStill P ops w Q [] (St n f) := h
theorem w_still {id : Nat} {Q : Exit → Act → World → Prop} {l : List Oper} (cx : Cxr w0 w L R) (hm : P.follows .mixedOrders = true) (hB : Region.lexB .any l.toArray = true)
    (h : ∀ w', Cxr w0 w' L R → Below w.heap.size w w' → wpStill P l.toArray w' (fun a' => Q .normal a' w') l (St n f)) : (Code.region id l.toArray true).wp P Q (St n f) w :=
  wp_region_still_lit hm hB (h w.drew cx.draw ⟨rfl, rfl, rfl, Nat.le_refl _, fun _ _ => rfl⟩)
end
end Go.Dk
namespace Go.Proofs.Ytmkihcdcgkdilaa
open Go Go.Dk Go.RowKit
theorem mixed : Try.prog.follows .mixedOrders = true := by kernel_rfl
end Go.Proofs.Ytmkihcdcgkdilaa
end
section
set_option linter.unusedVariables false
namespace Go.Dk
def szd (N : Nat) : Nat → V → Prop
  | 0, _ => True
  | d + 1, v => v.sc.text.size ≤ N ∧ v.sc.dig.size ≤ N ∧ v.bytes.length ≤ N ∧ v.list.length ≤ N ∧ v.fields.length ≤ N ∧ (∀ x ∈ v.list, szd N d x) ∧ (∀ kv ∈ v.fields, kv.1.size ≤ N ∧ szd N d kv.2)
def Fine (v : V) : Prop := ∀ d, szd 1048576 d v
theorem Fine.self {v : V} (h : Fine v) : v.sc.text.size ≤ 1048576 ∧ v.sc.dig.size ≤ 1048576 ∧ v.bytes.length ≤ 1048576 ∧ v.list.length ≤ 1048576 ∧ v.fields.length ≤ 1048576 := by
  have := h 1
  exact ⟨this.1, this.2.1, this.2.2.1, this.2.2.2.1, this.2.2.2.2.1⟩
theorem Fine.elem {v x : V} (h : Fine v) (hx : x ∈ v.list) : Fine x := fun d => (h (d + 1)).2.2.2.2.2.1 x hx
theorem Fine.field {v : V} {kv : ByteArray × V} (h : Fine v) (hx : kv ∈ v.fields) : kv.1.size ≤ 1048576 ∧ Fine kv.2 := ⟨((h 1).2.2.2.2.2.2 kv hx).1, fun d => ((h (d + 1)).2.2.2.2.2.2 kv hx).2⟩
def FineL (l : List V) : Prop := l.length ≤ 1048576 ∧ ∀ x ∈ l, Fine x
def FineF (l : List (ByteArray × V)) : Prop := l.length ≤ 1048576 ∧ ∀ kv ∈ l, kv.1.size ≤ 1048576 ∧ Fine kv.2
theorem Fine.l {v : V} (h : Fine v) : FineL v.list := ⟨h.self.2.2.2.1, fun _ hx => h.elem hx⟩
theorem Fine.f {v : V} (h : Fine v) : FineF v.fields := ⟨h.self.2.2.2.2, fun _ hx => h.field hx⟩
def deep : Nat → V → Prop
  | 0, _ => False
  | d + 1, v => (∀ x ∈ v.list, deep d x) ∧ ∀ kv ∈ v.fields, deep d kv.2
def tsz : Nat → V → Nat
  | 0, _ => 1
  | d + 1, v => 1 + ((v.list.map (tsz d)).sum + (v.fields.map fun kv => tsz d kv.2).sum)
theorem tsz_pos (d : Nat) (v : V) : 1 ≤ tsz d v := by cases d <;> simp [tsz]
theorem tsz_deep : ∀ (d k : Nat) (v : V), deep d v → d ≤ k → tsz k v = tsz d v
  | 0, _, _, h, _ => h.elim
  | d + 1, 0, _, _, h => by omega
  | d + 1, k + 1, v, h, hk => by
    simp only [tsz]
    have h1 : v.list.map (tsz k) = v.list.map (tsz d) := List.map_congr_left fun x hx => tsz_deep d k x (h.1 x hx) (by omega)
    have h2 : (v.fields.map fun kv => tsz k kv.2) = v.fields.map fun kv => tsz d kv.2 := List.map_congr_left fun x hx => tsz_deep d k x.2 (h.2 x hx) (by omega)
    rw [h1, h2]
theorem deep_mono : ∀ (d k : Nat) (v : V), deep d v → d ≤ k → deep k v
  | 0, _, _, h, _ => h.elim
  | _ + 1, 0, _, _, h => by omega
  | d + 1, k + 1, v, h, hk => ⟨fun x hx => deep_mono d k x (h.1 x hx) (by omega), fun x hx => deep_mono d k x.2 (h.2 x hx) (by omega)⟩
structure Own (s : Sc) (nb nl nf : Nat) : Prop where
  lo : 0 ≤ s.kind
  hi : s.kind ≤ 7
  b : s.kind ≠ 1 → s.b = false
  num : s.kind ≠ 2 → s.neg = false ∧ s.dig = ⟨#[]⟩ ∧ s.exp = 0
  time : s.kind ≠ 3 → s.tk = 0 ∧ s.td = 0 ∧ s.tn = 0 ∧ s.tz = 0
  text : s.kind ≠ 4 → s.text = ⟨#[]⟩
  bytes : s.kind ≠ 5 → nb = 0
  list : s.kind ≠ 6 → nl = 0
  fields : s.kind ≠ 7 → nf = 0
def Own1 (v : V) : Prop := Own v.sc v.bytes.length v.list.length v.fields.length
def keysOf (l : List (ByteArray × V)) : List ByteArray := l.map (·.1)
def okd : Nat → V → Prop
  | 0, _ => False
  | d + 1, v => Own1 v ∧ (keysOf v.fields).Nodup ∧ (∀ x ∈ v.list, okd d x) ∧ ∀ kv ∈ v.fields, okd d kv.2
def kidsR (v : V) : List V := if v.sc.kind = 7 then v.fields.map (·.2) else v.list
def kidsP (v : V) : List V := v.list ++ v.fields.map (·.2)
theorem deep_of_okd : ∀ (d : Nat) (v : V), okd d v → deep d v
  | 0, _, h => h
  | d + 1, v, h => ⟨fun x hx => deep_of_okd d x (h.2.2.1 x hx), fun x hx => deep_of_okd d x.2 (h.2.2.2 x hx)⟩
theorem Fine.kids {v : V} (h : Fine v) : ∀ x ∈ kidsP v, Fine x := by
  intro x hx
  rcases List.mem_append.1 hx with hx | hx
  · exact h.elem hx
  · obtain ⟨kv, hkv, rfl⟩ := List.mem_map.1 hx; exact (h.field hkv).2
theorem sum_append (l r : List Nat) : (l ++ r).sum = l.sum + r.sum := by
  induction l with
  | nil => simp
  | cons a l ih => simp only [List.cons_append, List.sum_cons, ih]; omega
theorem room_step {l : List V} {i e : Nat} {a b c : Int} (hi : i < l.length) (h : 0 ≤ a → (∀ x ∈ l.take i, deep e x) ∧ a + ((l.take i).map (tsz e)).sum = c) (ha : 0 ≤ a) (h2 : 0 ≤ b → deep e l[i] ∧ b + tsz e l[i] = a) :
    0 ≤ b → (∀ x ∈ l.take (i + 1), deep e x) ∧ b + ((l.take (i + 1)).map (tsz e)).sum = c := by
  intro hb
  obtain ⟨h3, h4⟩ := h ha
  obtain ⟨h5, h6⟩ := h2 hb
  have e1 : ((l.take (i + 1)).map (tsz e)).sum = ((l.take i).map (tsz e)).sum + tsz e l[i] := by
    rw [List.take_succ_eq_append_getElem hi, List.map_append, sum_append]; simp
  refine ⟨?_, by rw [e1]; omega⟩
  intro x hx
  rw [List.take_succ_eq_append_getElem hi] at hx
  rcases List.mem_append.1 hx with hx | hx
  · exact h3 x hx
  · simp at hx; subst hx; exact h5
theorem room_end {d : Nat} {v : V} {a b : Int} {c : Int} (h1 : 0 ≤ a → (∀ x ∈ v.list.take v.list.length, deep d x) ∧ a + ((v.list.take v.list.length).map (tsz d)).sum = c - 1) (ha : 0 ≤ a)
    (h2 : 0 ≤ b → (∀ x ∈ (v.fields.map (·.2)).take v.fields.length, deep d x) ∧ b + (((v.fields.map (·.2)).take v.fields.length).map (tsz d)).sum = a) (hb : 0 ≤ b) : deep (d + 1) v ∧ b + tsz (d + 1) v = c := by
  obtain ⟨h3, h4⟩ := h1 ha
  obtain ⟨h5, h6⟩ := h2 hb
  rw [List.take_length] at h3 h4
  rw [List.take_of_length_le (by simp)] at h5 h6
  refine ⟨⟨h3, fun kv hkv => h5 _ (List.mem_map.2 ⟨kv, hkv, rfl⟩)⟩, ?_⟩
  simp only [tsz, List.map_map, Function.comp_def] at h6 ⊢
  omega
theorem nodup_snoc {α : Type} {l : List α} {x : α} (h : l.Nodup) (hx : x ∉ l) : (l ++ [x]).Nodup := by
  rw [List.nodup_append]
  refine ⟨h, by simp, ?_⟩
  intro a ha b hb
  simp at hb
  subst hb
  intro e
  subst e
  exact hx ha
end Go.Dk
end
section
set_option linter.unusedVariables false
set_option linter.unusedSimpArgs false
namespace Go.Dk
open Go Go.RowKit
def Fr (w w' : World) (b : Nat) : Prop := w.heap.size ≤ b ∧ b < w'.heap.size
structure Kp (C : Nat → Prop) (wk w : World) : Prop where
  lt : ∀ b, C b → b < wk.heap.size
  sz : wk.heap.size ≤ w.heap.size
  kp : Keeps C wk w
theorem Kp.refl {C : Nat → Prop} {w : World} (h : ∀ b, C b → b < w.heap.size) : Kp C w w := ⟨h, Nat.le_refl _, fun _ _ => rfl⟩
theorem Kp.below {C : Nat → Prop} {wk w w' : World} (h : Kp C wk w) (hb : Below w.heap.size w w') : Kp C wk w' :=
  ⟨h.lt, Nat.le_trans h.sz hb.size, fun b hc => (hb.block b (Nat.lt_of_lt_of_le (h.lt b hc) h.sz)).trans (h.kp b hc)⟩
theorem Kp.grown {C : Nat → Prop} {wk w w' : World} {o : Option Nat} (h : Kp C wk w) (hg : w.grownBy w' o) (ho : ∀ b, C b → o ≠ some b) : Kp C wk w' :=
  ⟨h.lt, Nat.le_trans h.sz hg.size, fun b hc => (hg.block b (Nat.lt_of_lt_of_le (h.lt b hc) h.sz) (fun e => ho b hc e.symm)).trans (h.kp b hc)⟩
theorem Kp.later {C : Nat → Prop} {wk w w' : World} {g : Nat} (h : Kp C wk w) (hg : w.grownBy w' (some g)) (ho : wk.heap.size ≤ g) : Kp C wk w' :=
  h.grown hg fun b hb e => by have := h.lt b hb; simp at e; omega
theorem Kp.sub {C C' : Nat → Prop} {wk w : World} (h : Kp C wk w) (hs : ∀ b, C' b → C b) : Kp C' wk w := ⟨fun b hb => h.lt b (hs b hb), h.sz, fun b hb => h.kp b (hs b hb)⟩
def RowsF (A : Nat → Prop) (w : World) : List (ByteArray × V) → List (List Value) → Prop
  | [], [] => True
  | kv :: fs, r :: rs => (∃ l, r = .string kv.1 :: l ∧ RepV A w kv.2 l) ∧ RowsF A w fs rs
  | _, _ => False
theorem RowsF.snoc {A : Nat → Prop} {w : World} {k : ByteArray} {v : V} {l : List Value} : ∀ (fs : List (ByteArray × V)) (rs : List (List Value)), RowsF A w fs rs → RepV A w v l → RowsF A w (fs ++ [(k, v)]) (rs ++ [.string k :: l])
  | [], [], _, h => ⟨⟨l, rfl, h⟩, trivial⟩
  | _ :: fs, _ :: rs, h, hv => ⟨h.1, RowsF.snoc fs rs h.2 hv⟩
  | [], _ :: _, h, _ => h.elim
  | _ :: _, [], h, _ => h.elim
theorem RowsF.mono {A A' : Nat → Prop} {w w' : World} (hA : ∀ b, A b → A' b) (hk : Keeps A w w') : ∀ (fs : List (ByteArray × V)) (rs : List (List Value)), RowsF A w fs rs → RowsF A' w' fs rs
  | [], [], _ => trivial
  | _ :: fs, _ :: rs, ⟨⟨l, e, h⟩, hr⟩ => ⟨⟨l, e, RepV.mono hA hk _ _ h⟩, RowsF.mono hA hk fs rs hr⟩
  | [], _ :: _, h => h.elim
  | _ :: _, [], h => h.elim
theorem RepV.len {A : Nat → Prop} {w : World} {v : V} {l : List Value} (h : RepV A w v l) : l.length = 13 := by obtain ⟨bs, ls, fs, rfl, _⟩ := h.open; rfl
theorem RepV.one {A : Nat → Prop} {w : World} {v : V} {l : List Value} (h : RepV A w v l) : l.all (·.oneCell') = true := by
  obtain ⟨bs, ls, fs, rfl, ⟨_, _, h5, _⟩, ⟨_, _, h6, _⟩, ⟨_, _, h7, _⟩⟩ := RepV.open h
  obtain ⟨_, _, rfl, _⟩ := h5.form
  obtain ⟨_, _, rfl, _⟩ := h6.form
  obtain ⟨_, _, rfl, _⟩ := h7.form
  rfl
theorem RowsF.length {A : Nat → Prop} {w : World} : ∀ (fs : List (ByteArray × V)) (rs : List (List Value)), RowsF A w fs rs → rs.flatten.length = fs.length * 14 ∧ rs.length = fs.length
  | [], [], _ => ⟨rfl, rfl⟩
  | kv :: fs, r :: rs, ⟨⟨l, e, h⟩, hr⟩ => by
    obtain ⟨h1, h2⟩ := RowsF.length fs rs hr
    subst e
    refine ⟨?_, by simp [h2]⟩
    rw [List.flatten_cons, List.length_append, h1, List.length_cons, h.len, List.length_cons]; omega
  | [], _ :: _, h => h.elim
  | _ :: _, [], h => h.elim
theorem RowsF.reps {A A' : Nat → Prop} {w w' : World} {b : Nat} (hA : ∀ b, A b → A' b) (hk : Keeps A w w') : ∀ (fs : List (ByteArray × V)) (rs : List (List Value)) (o : Nat), RowsF A w fs rs → RowAt w' b o rs.flatten → RepFs A' w' b o fs
  | [], [], _, _, _ => trivial
  | (k, v) :: fs, r :: rs, o, ⟨⟨l, e, h⟩, hrs⟩, hr => by
    subst e
    dsimp only at hr h
    have hlen : (Value.string k :: l).length = 14 := by rw [List.length_cons, RepV.len h]
    have h1 : RowAt w' b o (Value.string k :: l) := fun j x hj => hr j x (by
      rw [List.flatten_cons, List.getElem?_append_left (List.getElem?_eq_some_iff.1 hj).1]; exact hj)
    have h2 : RowAt w' b (o + 14) rs.flatten := fun j x hj => by
      have := hr (14 + j) x (by rw [List.flatten_cons, List.getElem?_append_right (by omega), hlen, Nat.add_sub_cancel_left]; exact hj)
      rwa [← Nat.add_assoc] at this
    simp only [RepFs, RepP]
    exact ⟨⟨l, h1, RepV.mono hA hk v l h⟩, RowsF.reps hA hk fs rs (o + 14) hrs h2⟩
  | [], _ :: _, _, h, _ => h.elim
  | _ :: _, [], _, h, _ => h.elim
theorem RepFs.rows {A : Nat → Prop} {w : World} {b : Nat} : ∀ (fs : List (ByteArray × V)) (o : Nat), RepFs A w b o fs → ∃ rs, RowsF A w fs rs ∧ RowAt w b o rs.flatten ∧ rs.flatten.length = fs.length * 14 ∧ rs.flatten.all (·.oneCell') = true
  | [], _, _ => ⟨[], trivial, fun j x hj => by simp at hj, rfl, rfl⟩
  | (k, v) :: fs, o, h => by
    simp only [RepFs, RepP] at h
    obtain ⟨⟨l, hr, hv⟩, hs⟩ := h
    obtain ⟨rs, h1, h2, h3, h4⟩ := RepFs.rows fs (o + 14) hs
    have hlen : (Value.string k :: l).length = 14 := by rw [List.length_cons, RepV.len hv]
    refine ⟨(.string k :: l) :: rs, ⟨⟨l, rfl, hv⟩, h1⟩, ?_, ?_, ?_⟩
    · intro j x hj
      rw [List.flatten_cons] at hj
      rcases Nat.lt_or_ge j (Value.string k :: l).length with hlt | hge
      · rw [List.getElem?_append_left hlt] at hj; exact hr j x hj
      · rw [List.getElem?_append_right hge] at hj
        have := h2 (j - (Value.string k :: l).length) x hj
        rwa [show o + 14 + (j - (Value.string k :: l).length) = o + j by omega] at this
    · rw [List.flatten_cons, List.length_append, hlen, h3, List.length_cons]; omega
    · rw [List.flatten_cons, List.all_append, h4, List.all_cons, hv.one]; rfl
theorem fld_of_row {B : Nat} {w0 w : World} {v : Value} {n : Nat} {e : Nat} {vs : List (ByteArray × V)} {rs : List (List Value)} {A : Nat → Prop} (row : w.ownsRow B e 14 v n rs.flatten) (hn : n = vs.length) (hr : RowsF A w0 vs rs) (hk : Keeps A w0 w) : RepF (fun b => A b ∨ v.ownBlock = some b) w v vs := by
  subst hn
  rcases row.2 with ⟨rfl, h0⟩ | ⟨g, cap, cur, rfl, hb, hg, hle, _, hcs, htake⟩
  · have : vs = [] := List.eq_nil_of_length_eq_zero h0
    subst this
    exact ⟨0, 0, .inl ⟨rfl, rfl⟩, trivial⟩
  · have hrow : RowAt w g 0 rs.flatten := by
      intro j x hj
      rw [cell_of_row w g (0 + j) cur _ _ hg]
      rw [← htake] at hj
      rw [List.getElem?_take] at hj
      split at hj
      · simpa using hj
      · cases hj
    exact ⟨g, 0, .inr ⟨_, cap, rfl, hle, fun _ => ⟨rfl, .inr rfl⟩⟩, RowsF.reps (fun _ h => .inl h) hk vs rs 0 hr hrow⟩
theorem lstA_of_row {B : Nat} {w0 w : World} {v : Value} {n : Nat} {e : Nat} {vs : List V} {rs : List (List Value)} {A : Nat → Prop} (row : w.ownsRow B e 13 v n rs.flatten) (hn : n = vs.length) (hr : RowsV A w0 vs rs) (hk : Keeps A w0 w) : RepL (fun b => A b ∨ v.ownBlock = some b) w v vs := by
  subst hn
  rcases row.2 with ⟨rfl, h0⟩ | ⟨g, cap, cur, rfl, hb, hg, hle, _, hcs, htake⟩
  · have : vs = [] := List.eq_nil_of_length_eq_zero h0
    subst this
    exact ⟨0, 0, .inl ⟨rfl, rfl⟩, trivial⟩
  · have hrow : RowAt w g 0 rs.flatten := by
      intro j x hj
      rw [cell_of_row w g (0 + j) cur _ _ hg]
      rw [← htake] at hj
      rw [List.getElem?_take] at hj
      split at hj
      · simpa using hj
      · cases hj
    exact ⟨g, 0, .inr ⟨_, cap, rfl, hle, fun _ => ⟨rfl, .inr rfl⟩⟩, (RowsV.reps (fun _ h => .inl h) hk vs rs 0 hr hrow).1⟩
theorem own_row {B : Nat} {w : World} {v : Value} {n e k : Nat} {xs : List Value} (row : w.ownsRow B e k v n xs) : ∃ a c, v = .slice a n c ∧ (0 < n → ∃ g, a = some ⟨g, 0, none⟩ ∧ RowAt w g 0 xs) := by
  rcases row.2 with ⟨rfl, h0⟩ | ⟨g, cap, cur, rfl, hb, hg, hle, _, hcs, htake⟩
  · exact ⟨none, 0, by rw [h0], fun h => by omega⟩
  · refine ⟨_, cap, rfl, fun _ => ⟨g, rfl, ?_⟩⟩
    intro j x hj
    rw [cell_of_row w g (0 + j) cur _ _ hg]
    rw [← htake] at hj
    rw [List.getElem?_take] at hj
    split at hj
    · simpa using hj
    · cases hj
section
variable {P : Program} {ops : Array Oper} {Q : Exit → Act → World → Prop} {rest : List Oper} {o : Oper} {n : Nat} {f : Nat → Value} {w w0 : World} {L : List (Nat × Obj)} {R : List Row}
theorem Ctx.sub0 (h : Cxr w0 w L R) : Ctx w0 w [] := ⟨h.ext, by simp, by simp, by simp, by simp, by simp, by simp⟩
theorem s_storeAllG {t T : TypeId} {x y : Operand} {b : Nat} {l cs : List Value} (cx : Cxr w0 w L R) (i : Nat) (hg : o.guard = none) (hd : o.dst = none) (ho : o.op = .store t x y) (hx : ev n f x = .pointer (some ⟨b, 0, none⟩)) (hy : ev n f y = .agg l.toArray)
    (hi : L[i]? = some (b, .cells cs.toArray T)) (hs : (P.info? t).map (·.size) = some l.length) (hlen : cs.length = l.length) (h1 : l.all (·.oneCell') = true)
    (h : ∀ w', Cxr w0 w' (L.set i (b, .cells l.toArray T)) R → w.grownBy w' (some b) → wpList P ops Q rest (St n f) w') : wpList P ops Q (o :: rest) (St n f) w := by
  have hb := cx.at i hi
  refine s_put (w' := w.setRow b l.toArray) hg hd ?_ (h _ (setRow_ctx cx i hi) ⟨rfl, rfl, rfl, by simp, fun k _ hne => setRow_other w b k _ fun e => hne (by rw [e])⟩)
  have := run_storeVar_row (P := P) w b T t cs.toArray l.toArray hb (by simpa using hs) (by simpa using hlen) (by simpa using h1)
  unfold execOp; rw [ho]
  simp [hx, hy, Instr.storeAt, Instr.sureAddr, this]
theorem s_store1G {t T : TypeId} {x y : Operand} {b j : Nat} {cs : List Value} {v : Value} (cx : Cxr w0 w L R) (i : Nat) (hg : o.guard = none) (hd : o.dst = none) (ho : o.op = .store t x y) (hx : ev n f x = .pointer (some ⟨b, j, none⟩)) (hy : ev n f y = v) (h1 : v.oneCell' = true)
    (hi : L[i]? = some (b, .cells cs.toArray T)) (hj : Nat.blt j cs.length = true) (hs : (P.info? t).map (·.size) = some 1)
    (h : ∀ w', Cxr w0 w' (L.set i (b, .cells (cs.set j v).toArray T)) R → w.grownBy w' (some b) → wpList P ops Q rest (St n f) w') : wpList P ops Q (o :: rest) (St n f) w := by
  have hb := cx.at i hi
  have hj' : j < cs.length := by simpa [blt_iff] using hj
  have hc : v.cells = #[v] := by cases v <;> first | rfl | simp [Value.oneCell'] at h1
  have hcell : w.cell? ⟨b, j, none⟩ = some cs[j] := by rw [cell_of_row w b j _ T _ hb]; simp [hj']
  have hfr : w.frozen? ⟨b, j, none⟩ = false := frozen_of_row w b j _ T hb
  refine s_put (w' := w.setCell ⟨b, j, none⟩ v) hg hd ?_ (h _ ?_ ⟨rfl, rfl, rfl, by simp, fun k _ hne => Below.heap_setCell w _ v k fun e => hne (by rw [e])⟩)
  · unfold execOp; rw [ho]
    simp [hx, hy, Instr.storeAt, Instr.sureAddr, storeVar, run_size (w := w) hs, hc, storeCells, run_store P w _ v _ h1, add_addr, hcell, hfr]
  · refine cx.turn i hi rfl rfl rfl (by simp) ?_ fun k _ hne => Below.heap_setCell w _ v k hne
    rw [heap_setCell_same w b j _ T v hb]
    simp
theorem s_appendG {s x : Operand} {t e size bytes : Nat} {v : Value} {k m c b off d : Nat} {xs news : List Value} (cx : Cxr w0 w L (⟨e, size, v, k, xs⟩ :: R)) (ei : EI P e size bytes) (ht : P.underlying t = some (.slice e))
    (hg : o.guard = none) (hd : o.dst = some d) (ho : o.op = .call { callee := .builtin .append, args := #[s, x], argTypes := #[t, t] }) (hs : ev n f s = v) (hx : ev n f x = .slice (some ⟨b, off, none⟩) m c)
    (hr : RowAt w b off news) (hl : news.length = m * size) (h1 : news.all (·.oneCell') = true) (hb : (k + m) * bytes ≤ 140737488355328)
    (h : ∀ v' w', Cxr w0 w' L (⟨e, size, v', k + m, xs ++ news⟩ :: R) → w.grownBy w' v.ownBlock → (∀ q, v'.ownBlock = some q → v.ownBlock = some q ∨ w.heap.size ≤ q) → wpList P ops Q rest (St n (upd f d v')) w') : wpList P ops Q (o :: rest) (St n f) w := by
  have hrow0 := cx.rows _ (List.mem_cons_self ..)
  have hoff0 := cx.off _ (List.mem_cons_self ..)
  have hpw0 := (List.pairwise_cons.1 cx.pw).1
  simp only at hrow0 hoff0
  obtain ⟨v', w', hrun, hrow, hgr, hnew⟩ := run_append_new (P := P) (ty := o.type) (c := c) (ad := ⟨b, off, none⟩) ei ht hrow0 hl (fun j u hj => by rw [add_addr]; exact hr j u hj) (by simpa using h1) hb cx.ext.size
  have hcx0 : Cxr w0 w' L R := by
    refine ⟨cx.ext.grown hgr cx.ext.size (fun k hk => (hrow0.lt k hk).1), ?_, cx.lo, cx.nd, ?_, fun r hr => cx.off r (List.mem_cons_of_mem _ hr), (List.pairwise_cons.1 cx.pw).2⟩
    · intro p hp'
      rw [hgr.block p.1 (cx.lt p hp') (fun e => hoff0 p.1 e.symm (List.mem_map.2 ⟨p, hp', rfl⟩))]
      exact cx.own p hp'
    · intro r hr
      refine cx.row_keep (List.mem_cons_of_mem _ hr) hgr.os hgr.tape hgr.output hgr.size fun q hq hv => hgr.block q hq fun e => ?_
      exact hpw0 r hr q e.symm hv
  refine s_new (w' := w') (v := v') hg hd ?_ (h v' w' (hcx0.addRow _ hrow ?_ ?_) hgr hnew)
  · unfold execOp; rw [ho]
    simp [resolve, invoke, builtin, hs, hx, hrun, Result.andThen]
  · intro q hq hm
    obtain ⟨p, hp', rfl⟩ := List.mem_map.1 hm
    rcases hnew _ hq with h2 | h2
    · exact hoff0 _ h2 (List.mem_map.2 ⟨p, hp', rfl⟩)
    · have := cx.lt p hp'; omega
  · intro r hr q hq hq'
    rcases hnew _ hq with h2 | h2
    · exact hpw0 r hr q h2 hq'
    · have := ((cx.rows r (List.mem_cons_of_mem _ hr)).lt _ hq').2; omega
theorem s_storeRow {t : TypeId} {x y : Operand} {e size k cap g j : Nat} {xs l : List Value} (cx : Cxr w0 w L (⟨e, size, .slice (some ⟨g, 0, none⟩) k cap, k, xs⟩ :: R)) (hg : o.guard = none) (hd : o.dst = none) (ho : o.op = .store t x y) (hx : ev n f x = .pointer (some ⟨g, j, none⟩)) (hy : ev n f y = .agg l.toArray)
    (hs : (P.info? t).map (·.size) = some l.length) (hj : j + l.length ≤ k * size) (h1 : l.all (·.oneCell') = true)
    (h : ∀ w', Cxr w0 w' L (⟨e, size, .slice (some ⟨g, 0, none⟩) k cap, k, xs.take j ++ l ++ xs.drop (j + l.length)⟩ :: R) → w.grownBy w' (some g) → w'.heap.size = w.heap.size → wpList P ops Q rest (St n f) w') : wpList P ops Q (o :: rest) (St n f) w := by
  have hrow0 := cx.rows _ (List.mem_cons_self ..)
  have hoff0 := cx.off _ (List.mem_cons_self ..)
  have hpw0 := (List.pairwise_cons.1 cx.pw).1
  simp only at hrow0 hoff0 hpw0
  rcases hrow0.2 with ⟨h0, _⟩ | ⟨g', cap', cur, he, hbg, hgc, hkc, hcm, hcs, htake⟩
  · cases h0
  simp only [Value.slice.injEq, Option.some.injEq, Addr.mk.injEq, and_true, true_and] at he
  obtain ⟨rfl, rfl⟩ := he
  have hle : k * size ≤ cap * size := Nat.mul_le_mul_right _ hkc
  have hrun := run_storeCells_at P g j e l 0 cur w hgc (by rw [hcs]; omega) (fun v hv => List.all_eq_true.1 h1 v hv)
  simp only [Nat.add_zero] at hrun
  refine s_put (w' := w.setRow g (cur.toList.take j ++ l ++ cur.toList.drop (j + l.length)).toArray) hg hd ?_ ?_
  · unfold execOp; rw [ho]
    cases hq : P.info? t with
    | none => simp [hq] at hs
    | some i =>
      have hs' : l.length = i.size := by simp [hq] at hs; omega
      simp [hx, hy, Instr.storeAt, Instr.sureAddr, storeVar, sizeOf, typeInfo, hq, Value.cells, hs', hrun]
  · have hgr : w.grownBy (w.setRow g (cur.toList.take j ++ l ++ cur.toList.drop (j + l.length)).toArray) (some g) := ⟨rfl, rfl, rfl, by simp, fun k _ hne => setRow_other w g k _ fun e => hne (by rw [e])⟩
    refine h _ ?_ hgr (by simp)
    have hcx0 : Cxr w0 (w.setRow g (cur.toList.take j ++ l ++ cur.toList.drop (j + l.length)).toArray) L R := by
      refine ⟨cx.ext.grown hgr cx.ext.size (fun k hk => by simp at hk; omega), ?_, cx.lo, cx.nd, ?_, fun r hr => cx.off r (List.mem_cons_of_mem _ hr), (List.pairwise_cons.1 cx.pw).2⟩
      · intro p hp'
        rw [hgr.block p.1 (cx.lt p hp') (fun e => hoff0 p.1 (by rw [e]; rfl) (List.mem_map.2 ⟨p, hp', rfl⟩))]
        exact cx.own p hp'
      · intro r hr
        refine cx.row_keep (List.mem_cons_of_mem _ hr) hgr.os hgr.tape hgr.output hgr.size fun q hq hv => hgr.block q hq fun e => ?_
        exact hpw0 r hr q (by rw [e]; rfl) hv
    refine hcx0.addRow _ ⟨?_, .inr ⟨g, cap, _, rfl, hbg, setRow_heap w g cur _ _ _ hgc, hkc, hcm, ?_, ?_⟩⟩ hoff0 hpw0
    · have := hrow0.1
      simp only [List.length_append, List.length_take, List.length_drop]
      omega
    · simp only [List.size_toArray, List.length_append, List.length_take, List.length_drop, Array.length_toList]
      omega
    · rw [← htake]
      have hl : cur.toList.length = cap * size := by simpa using hcs
      generalize cur.toList = c at hl
      apply List.ext_getElem?
      intro i
      simp only [List.getElem?_take, List.getElem?_append, List.length_take, List.getElem?_drop, List.length_append]
      have e1 : min j c.length = j := by omega
      have e2 : min j (min (k * size) c.length) = j := by omega
      rw [e1, e2]
      by_cases hi : i < k * size
      · rw [if_pos hi]
        by_cases h2 : i < j + l.length
        · rw [if_pos h2, if_pos h2]
          by_cases h3 : i < j
          · rw [if_pos h3, if_pos h3, if_pos h3, if_pos h3, if_pos hi]
          · rw [if_neg h3, if_neg h3]
        · rw [if_neg h2, if_neg h2, if_pos (by omega)]
      · rw [if_neg hi, if_neg (by omega), if_neg (by omega)]
theorem ret_cell {fn : Func} {R : Value → World → Prop} {t T ty b : Nat} {l : List Value} {fr : Nat × Nat} {d : TypeDesc} (hr : fn.results = #[.cell t ty]) (hv : ev n f (.tmp t) = .pointer (some ⟨b, 0, none⟩)) (hb : w.heap[b]? = some (.cells l.toArray T fr))
    (hu : P.underlying ty = some d) (hdd : (match d with | .struct _ | .array _ _ => true | _ => false) = true) (hs : (P.info? ty).map (·.size) = some l.length) (h : R (.agg l.toArray) w) : bodyPost P fn (fun e w' => ∃ v, e = .returned v ∧ R v w') .ret (St n f) w := by
  refine ⟨rfl, .agg l.toArray, ?_, _, rfl, h⟩
  have : (St n f).tmps.getD t undef = .pointer (some ⟨b, 0, none⟩) := by rw [← hv, ← eval_St]; rfl
  exact results_cell_row hr _ w b T l.toArray fr d this hb hu hdd (by simpa using hs)
end
end Go.Dk
end
section
namespace Go.Dk
open Go Go.RowKit
structure Stp where
  byIndex : Bool
  key : ByteArray
  index : Int
def srow (s : Stp) : List Value := [.bool s.byIndex, .string s.key, .int .i64 s.index]
def Pth (w : World) (s : Value) (l : List Stp) : Prop := ∃ b o, SliceAt (fun b => b < w.heap.size) s l.length b o ∧ ∀ i x, l[i]? = some x → RowAt w b (o + i * 3) (srow x)
theorem Pth.up {w w' : World} (h : Below w.heap.size w w') {s : Value} {l : List Stp} (hp : Pth w s l) : Pth w' s l := by
  obtain ⟨b, o, hs, hr⟩ := hp
  exact ⟨b, o, hs.mono fun _ hb => Nat.lt_of_lt_of_le hb h.size, fun i x hx => (hr i x hx).up h⟩
theorem Pth.form {w : World} {s : Value} {l : List Stp} (h : Pth w s l) : ∃ a c b o, s = .slice a l.length c ∧ (0 < l.length → a = some ⟨b, o, none⟩) ∧ ∀ i x, l[i]? = some x → RowAt w b (o + i * 3) (srow x) := by
  obtain ⟨b, o, hs, hr⟩ := h
  obtain ⟨a, c, rfl, ha⟩ := hs.form
  exact ⟨a, c, b, o, rfl, ha, hr⟩
structure Ch where
  op : Int
  path : List Stp
  pos : Int
  old : V
  new : V
def Chg (w : World) (c : Ch) (l : List Value) : Prop := ∃ ps o n, l = .int .i64 c.op :: ps :: .int .i64 c.pos :: (o ++ n) ∧ Pth w ps c.path ∧ Val w c.old o ∧ Val w c.new n
theorem Chg.up {w w' : World} (h : Below w.heap.size w w') {c : Ch} {l : List Value} (hc : Chg w c l) : Chg w' c l := by
  obtain ⟨ps, o, n, e, h1, h2, h3⟩ := hc
  exact ⟨ps, o, n, e, h1.up h, h2.up h, h3.up h⟩
def Chs (w : World) (s : Value) (l : List Ch) : Prop := ∃ b o, SliceAt (fun b => b < w.heap.size) s l.length b o ∧ ∀ i c, l[i]? = some c → ∃ r, RowAt w b (o + i * 29) r ∧ Chg w c r
theorem Chs.up {w w' : World} (h : Below w.heap.size w w') {s : Value} {l : List Ch} (hp : Chs w s l) : Chs w' s l := by
  obtain ⟨b, o, hs, hr⟩ := hp
  refine ⟨b, o, hs.mono fun _ hb => Nat.lt_of_lt_of_le hb h.size, fun i x hx => ?_⟩
  obtain ⟨r, h1, h2⟩ := hr i x hx
  exact ⟨r, h1.up h, h2.up h⟩
theorem Chs.form {w : World} {s : Value} {l : List Ch} (h : Chs w s l) : ∃ a c b o, s = .slice a l.length c ∧ (0 < l.length → a = some ⟨b, o, none⟩) ∧ ∀ i x, l[i]? = some x → ∃ r, RowAt w b (o + i * 29) r ∧ Chg w x r := by
  obtain ⟨b, o, hs, hr⟩ := h
  obtain ⟨a, c, rfl, ha⟩ := hs.form
  exact ⟨a, c, b, o, rfl, ha, hr⟩
theorem Chg.form {w : World} {c : Ch} {l : List Value} (h : Chg w c l) : ∃ ps b1 l1 f1 b2 l2 f2, l = .int .i64 c.op :: ps :: .int .i64 c.pos :: (vrow c.old.sc b1 l1 f1 ++ vrow c.new.sc b2 l2 f2) ∧ Pth w ps c.path ∧ Val w c.old (vrow c.old.sc b1 l1 f1) ∧ Val w c.new (vrow c.new.sc b2 l2 f2) ∧ l.all (·.oneCell') = true := by
  obtain ⟨ps, o, n, rfl, h1, h2, h3⟩ := h
  have e2 := h2.oneCell
  have e3 := h3.oneCell
  obtain ⟨b1, l1, f1, rfl, _⟩ := h2.open
  obtain ⟨b2, l2, f2, rfl, _⟩ := h3.open
  refine ⟨ps, b1, l1, f1, b2, l2, f2, rfl, h1, h2, h3, ?_⟩
  obtain ⟨_, _, _, _, rfl, _⟩ := h1.form
  simp only [List.all_cons, List.all_append, e2, e3]
  rfl
structure Okv (N : Nat) (v : V) : Prop where
  ok : okd 48 v
  dp : deep 60 v
  sz : tsz 60 v ≤ N
def costOf (c : Ch) : Nat := (if c.op = 1 ∨ c.op = 3 then tsz 60 c.old else 0) + (if c.op = 1 ∨ c.op = 2 then tsz 60 c.new else 0)
end Go.Dk
end
section
set_option linter.unusedVariables false
set_option linter.unusedSimpArgs false
namespace Go.Dk
open Go Go.RowKit
def Dn (w0 w : World) (ids : List Nat) (v : Value) (b : Nat) : Prop := Fr w0 w b ∧ b ∉ ids ∧ v.ownBlock ≠ some b
theorem Dn.lt {w0 w : World} {ids : List Nat} {v : Value} (b : Nat) (h : Dn w0 w ids v b) : b < w.heap.size := h.1.2
theorem Dn.fr {w0 w : World} {ids : List Nat} {v : Value} (b : Nat) (h : Dn w0 w ids v b) : Fr w0 w b := h.1
theorem Dn.step {w0 wk w' : World} {ids : List Nat} {v v' : Value} {m : Nat} (hs : wk.heap.size ≤ w'.heap.size) (hm : wk.heap.size ≤ m) (hn : ∀ q, v'.ownBlock = some q → v.ownBlock = some q ∨ m ≤ q) : ∀ b, Dn w0 wk ids v b → Dn w0 w' ids v' b := fun b h =>
  ⟨⟨h.1.1, Nat.lt_of_lt_of_le h.1.2 hs⟩, h.2.1, fun e => by
    rcases hn b e with h1 | h1
    · exact h.2.2 h1
    · have := h.1.2; omega⟩
theorem Dn.new {w0 wc wc' w' : World} {ids : List Nat} {v v' : Value} {m : Nat} (h0 : w0.heap.size ≤ wc.heap.size) (hs : wc'.heap.size ≤ w'.heap.size) (hi : ∀ i ∈ ids, i < wc.heap.size) (hv : ∀ q, v.ownBlock = some q → q < wc.heap.size) (hm : wc'.heap.size ≤ m) (hn : ∀ q, v'.ownBlock = some q → v.ownBlock = some q ∨ m ≤ q) : ∀ b, Fr wc wc' b → Dn w0 w' ids v' b := fun b h =>
  ⟨⟨Nat.le_trans h0 h.1, Nat.lt_of_lt_of_le h.2 hs⟩, fun e => by have := hi b e; have := h.1; omega, fun e => by
    rcases hn b e with h1 | h1
    · have := hv b h1; have := h.1; omega
    · have := h.2; omega⟩
theorem Made_lt {B e k n : Nat} {w : World} {v : Value} {xs : List Value} (row : w.ownsRow B e k v n xs) : ∀ q, v.ownBlock = some q → B ≤ q ∧ q < w.heap.size := fun q hq => row.lt q hq
theorem byt_of_row {B : Nat} {w : World} {v : Value} {n e : Nat} {l : List UInt8} (row : w.ownsRow B e 1 v n (l.map byteVal)) (hn : n = l.length) : RepB (fun b => v.ownBlock = some b) w v l := by
  subst hn
  rcases row.2 with ⟨rfl, h0⟩ | ⟨g, cap, cur, rfl, hb, hg, hle, _, hcs, htake⟩
  · have : l = [] := List.eq_nil_of_length_eq_zero h0
    subst this
    exact ⟨0, 0, .inl ⟨rfl, rfl⟩, fun j x hj => by simp at hj⟩
  · refine ⟨g, 0, .inr ⟨_, cap, rfl, hle, fun _ => ⟨rfl, rfl⟩⟩, ?_⟩
    intro j x hj
    rw [cell_of_row w g (0 + j) cur _ _ hg]
    rw [← htake] at hj
    rw [List.getElem?_take] at hj
    split at hj
    · simpa using hj
    · cases hj
def Made (w0 w' : World) (v : V) (x : Value) : Prop := ∃ bs ls fs rs, x = .agg (vrow v.sc bs ls fs).toArray ∧ RepB (Fr w0 w') w' bs v.bytes ∧ RepL (Fr w0 w') w' ls v.list ∧
  w'.ownsRow w0.heap.size 77 14 fs v.fields.length rs.flatten ∧ RowsF (fun b => Fr w0 w' b ∧ fs.ownBlock ≠ some b) w' v.fields rs
theorem Made.rep {w0 w' : World} {v : V} {x : Value} (h : Made w0 w' v x) : ∃ r, x = .agg r.toArray ∧ RepV (Fr w0 w') w' v r := by
  obtain ⟨bs, ls, fs, rs, rfl, h1, h2, h3, h4⟩ := h
  refine ⟨_, rfl, RepV.mk h1 h2 ?_⟩
  have := fld_of_row h3 rfl h4 (fun _ _ => rfl)
  refine RepF.mono ?_ (fun _ _ => rfl) this
  rintro b (hb | hb)
  · exact hb.1
  · exact Made_lt h3 b hb
section
variable {P : Program} {ops : Array Oper} {Q : Exit → Act → World → Prop} {rest : List Oper} {o : Oper} {n : Nat} {f : Nat → Value} {w w0 : World} {L : List (Nat × Obj)} {R : List Row}
theorem s_appendH {s x : Operand} {t e size bytes : Nat} {v : Value} {k m c d : Nat} {ad : Addr} {xs news : List Value} (cx : Cxr w0 w L (⟨e, size, v, k, xs⟩ :: R)) (ei : EI P e size bytes) (ht : P.underlying t = some (.slice e))
    (hg : o.guard = none) (hd : o.dst = some d) (ho : o.op = .call { callee := .builtin .append, args := #[s, x], argTypes := #[t, t] }) (hs : ev n f s = v) (hx : ev n f x = .slice (some ad) m c)
    (hr : ∀ j u, news[j]? = some u → w.cell? (ad.add j) = some u) (hl : news.length = m * size) (h1 : news.all (·.oneCell') = true) (hb : (k + m) * bytes ≤ 140737488355328)
    (h : ∀ v' w', Cxr w0 w' L (⟨e, size, v', k + m, xs ++ news⟩ :: R) → w.grownBy w' v.ownBlock → (∀ q, v'.ownBlock = some q → v.ownBlock = some q ∨ w.heap.size ≤ q) → wpList P ops Q rest (St n (upd f d v')) w') : wpList P ops Q (o :: rest) (St n f) w := by
  have hrow0 := cx.rows _ (List.mem_cons_self ..)
  have hoff0 := cx.off _ (List.mem_cons_self ..)
  have hpw0 := (List.pairwise_cons.1 cx.pw).1
  simp only at hrow0 hoff0
  obtain ⟨v', w', hrun, hrow, hgr, hnew⟩ := run_append_new (P := P) (ty := o.type) (c := c) (ad := ad) ei ht hrow0 hl hr (by simpa using h1) hb cx.ext.size
  have hcx0 : Cxr w0 w' L R := by
    refine ⟨cx.ext.grown hgr cx.ext.size (fun k hk => (hrow0.lt k hk).1), ?_, cx.lo, cx.nd, ?_, fun r hr => cx.off r (List.mem_cons_of_mem _ hr), (List.pairwise_cons.1 cx.pw).2⟩
    · intro p hp'
      rw [hgr.block p.1 (cx.lt p hp') (fun e => hoff0 p.1 e.symm (List.mem_map.2 ⟨p, hp', rfl⟩))]
      exact cx.own p hp'
    · intro r hr
      refine cx.row_keep (List.mem_cons_of_mem _ hr) hgr.os hgr.tape hgr.output hgr.size fun q hq hv => hgr.block q hq fun e => ?_
      exact hpw0 r hr q e.symm hv
  refine s_new (w' := w') (v := v') hg hd ?_ (h v' w' (hcx0.addRow _ hrow ?_ ?_) hgr hnew)
  · unfold execOp; rw [ho]
    simp [resolve, invoke, builtin, hs, hx, hrun, Result.andThen]
  · intro q hq hm
    obtain ⟨p, hp', rfl⟩ := List.mem_map.1 hm
    rcases hnew _ hq with h2 | h2
    · exact hoff0 _ h2 (List.mem_map.2 ⟨p, hp', rfl⟩)
    · have := cx.lt p hp'; omega
  · intro r hr q hq hq'
    rcases hnew _ hq with h2 | h2
    · exact hpw0 r hr q h2 hq'
    · have := ((cx.rows r (List.mem_cons_of_mem _ hr)).lt _ hq').2; omega
end
theorem Cxr.head {w0 w : World} {L : List (Nat × Obj)} {r : Row} {R : List Row} (h : Cxr w0 w L (r :: R)) : w.ownsRow w0.heap.size r.e r.size r.v r.n r.xs := h.rows r (List.mem_cons_self ..)
theorem Cxr.lts {w0 w : World} {L : List (Nat × Obj)} {R : List Row} (h : Cxr w0 w L R) : ∀ i ∈ L.map (·.1), w0.heap.size ≤ i ∧ i < w.heap.size := by
  intro i hi
  obtain ⟨p, hp, rfl⟩ := List.mem_map.1 hi
  exact ⟨h.lo p hp, h.lt p hp⟩
theorem repB_cells {A : Nat → Prop} {w : World} {s : Value} {l : List UInt8} (h : RepB A w s l) : ∃ a c, s = .slice a l.length c ∧ ∀ ad, a = some ad → ∀ j u, (l.map byteVal)[j]? = some u → w.cell? (ad.add j) = some u := by
  obtain ⟨a, c, b, o, rfl, ha, hr⟩ := h.form
  refine ⟨a, c, rfl, fun ad had j u hu => ?_⟩
  have h0 : 0 < l.length := by have := (List.getElem?_eq_some_iff.1 hu).1; simp at this; omega
  have := ha h0
  rw [had] at this
  obtain rfl := Option.some.inj this
  rw [add_addr]
  exact hr j u hu
theorem Kp.dnId {w0 wk w w' : World} {ids : List Nat} {v : Value} {g : Nat} (h : Kp (Dn w0 wk ids v) wk w) (hg : w.grownBy w' (some g)) (hi : g ∈ ids) : Kp (Dn w0 wk ids v) wk w' :=
  h.grown hg fun b hb e => hb.2.1 (by simp at e; subst e; exact hi)
theorem Kp.dnOwn {w0 wk w w' : World} {ids : List Nat} {v : Value} (h : Kp (Dn w0 wk ids v) wk w) (hg : w.grownBy w' v.ownBlock) : Kp (Dn w0 wk ids v) wk w' :=
  h.grown hg fun b hb => hb.2.2
theorem Kp.dn (w0 w : World) (ids : List Nat) (v : Value) : Kp (Dn w0 w ids v) w w := Kp.refl Dn.lt
theorem Kp.fr {wc w : World} (h : Below wc.heap.size wc w) : Kp (Fr wc w) w w := Kp.refl fun b hb => hb.2
theorem Kp.frOwn {wc wc' w w' : World} {o : Option Nat} (h : Kp (Fr wc wc') wc' w) (hg : w.grownBy w' o) (hv : ∀ q, o = some q → q < wc.heap.size) : Kp (Fr wc wc') wc' w' :=
  h.grown hg fun b hb e => by have := hv b e; have := hb.1; omega
theorem Dn.join {w0 w : World} {L : List (Nat × Obj)} {R : List Row} {r : Row} {ids : List Nat} (cx : Cxr w0 w L (r :: R)) (hi : ∀ i ∈ ids, i ∈ L.map (·.1)) : ∀ b, Dn w0 w ids r.v b ∨ r.v.ownBlock = some b → Dn w0 w ids (.slice none 0 0) b := by
  rintro b (h | h)
  · exact ⟨h.1, h.2.1, by simp [Value.ownBlock]⟩
  · exact ⟨Made_lt cx.head b h, fun hm => cx.off r (List.mem_cons_self ..) b h (hi b hm), by simp [Value.ownBlock]⟩
theorem Dn.nil {w0 w : World} {ids : List Nat} {v : Value} : ∀ b, Dn w0 w ids v b → Dn w0 w ids (.slice none 0 0) b := fun b h => ⟨h.1, h.2.1, by simp [Value.ownBlock]⟩
theorem RepL.one {A : Nat → Prop} {w : World} {s : Value} {l : List V} (h : RepL A w s l) : s.oneCell' = true := by
  obtain ⟨_, _, hs, _⟩ := h
  obtain ⟨_, _, rfl, _⟩ := hs.form
  rfl
theorem vrow_one {s : Sc} {bs ls fs : Value} (h1 : bs.oneCell' = true) (h2 : ls.oneCell' = true) (h3 : fs.oneCell' = true) : (vrow s bs ls fs).all (·.oneCell') = true := by
  simp only [vrow, List.all_cons, List.all_nil, h1, h2, h3]
  rfl
theorem own_one {B : Nat} {w : World} {v : Value} {n e k : Nat} {xs : List Value} (row : w.ownsRow B e k v n xs) : v.oneCell' = true := by
  obtain ⟨_, _, rfl, _⟩ := own_row row
  rfl
end Go.Dk
namespace Go.Proofs.Ytmkihcdcgkdilaa
open Go Go.Dk Go.RowKit
theorem bd77 (k : ByteArray) (s : Sc) (bs ls fs : Value) (w : World) : (Instr.build 77 ([(0, .string k), (1, .agg (vrow s bs ls fs).toArray)] : List (Nat × Value)).toArray).run Try.prog w = .ok (.agg (.string k :: vrow s bs ls fs).toArray) w := by
  unfold vrow
  go_simp
theorem bd33 (w : World) : (Instr.build 33 ([] : List (Nat × Value)).toArray).run Try.prog w = .ok (.agg (vrow ⟨0, false, false, ByteArray.empty, 0, 0, 0, 0, 0, ByteArray.empty⟩ (.slice none 0 0) (.slice none 0 0) (.slice none 0 0)).toArray) w := by
  unfold vrow
  go_simp
  rfl
end Go.Proofs.Ytmkihcdcgkdilaa
end
section
set_option linter.unusedVariables false
set_option linter.unusedSimpArgs false
namespace Go.Dk
open Go Go.RowKit
theorem Made.up {wc wc' w0 w' : World} {v : V} {x : Value} (h : Made wc wc' v x) (h0 : w0.heap.size ≤ wc.heap.size) (hK : Kp (Fr wc wc') wc' w') : Made w0 w' v x := by
  obtain ⟨bs, ls, fs, rs, e, h1, h2, h3, h4⟩ := h
  have hs : ∀ b, Fr wc wc' b → Fr w0 w' b := fun b hb => ⟨Nat.le_trans h0 hb.1, Nat.lt_of_lt_of_le hb.2 hK.sz⟩
  refine ⟨bs, ls, fs, rs, e, RepB.mono hs hK.kp h1, RepL.mono hs hK.kp h2, ⟨h3.1, ?_⟩, RowsF.mono (fun b hb => ⟨hs b hb.1, hb.2⟩) (fun b hb => hK.kp b hb.1) _ _ h4⟩
  rcases h3.2 with hn | ⟨g, cap, cur, hv, hb, hg, rest⟩
  · exact .inl hn
  · refine .inr ⟨g, cap, cur, hv, Nat.le_trans h0 hb, ?_, rest⟩
    rw [hK.kp g ⟨hb, (Array.getElem?_eq_some_iff.1 hg).1⟩]
    exact hg
section
variable {P : Program} {o : Oper} {w : World} {ρ : Operand → Value}
theorem v_slHi {t : TypeId} {x y : Operand} {s : Nat} {a : Option Addr} {len cap : Nat} {k : IntKind} {h : Int} (ht : P.underlying t = some (.slice (P.elem t))) (hs : (P.info? (P.elem t)).map (·.size) = some s) (ho : o.op = .slice t x none (some y) none) (hx : ρ x = .slice a len cap) (hy : ρ y = .int k h) (h0 : 0 ≤ h) (h1 : h ≤ cap) :
    (execOp ρ o).run P w = .ok (.value (sliced a 0 h.toNat cap s)) w := by
  unfold execOp; rw [ho]
  have := run_slice_h (w := w) t a len cap ht k h h0 h1
  simp [hx, hy, run_sliceAt_slice (w := w) t _ _ _ _ ht, this, run_size (w := w) hs]
theorem v_slLo {t : TypeId} {x y : Operand} {s : Nat} {a : Option Addr} {len cap : Nat} {k : IntKind} {h : Int} (ht : P.underlying t = some (.slice (P.elem t))) (hs : (P.info? (P.elem t)).map (·.size) = some s) (ho : o.op = .slice t x (some y) none none) (hx : ρ x = .slice a len cap) (hy : ρ y = .int k h) (h0 : 0 ≤ h) (h1 : h ≤ len) :
    (execOp ρ o).run P w = .ok (.value (sliced a h.toNat len cap s)) w := by
  unfold execOp; rw [ho]
  have := run_slice_l (w := w) t a len cap ht k h h0 h1
  simp [hx, hy, run_sliceAt_slice (w := w) t _ _ _ _ ht, this, run_size (w := w) hs]
end
theorem ret_cell2 {P : Program} {n : Nat} {f : Nat → Value} {w : World} {fn : Func} {R : Value → World → Prop} {t u T ty b : Nat} {l : List Value} {x : Value} {fr : Nat × Nat} {d : TypeDesc} (hr : fn.results = #[.cell t ty, .tmp u]) (hv : ev n f (.tmp t) = .pointer (some ⟨b, 0, none⟩)) (hx : ev n f (.tmp u) = x) (hb : w.heap[b]? = some (.cells l.toArray T fr))
    (hu : P.underlying ty = some d) (hdd : (match d with | .struct _ | .array _ _ => true | _ => false) = true) (hs : (P.info? ty).map (·.size) = some l.length) (h : R (.tuple #[.agg l.toArray, x]) w) : bodyPost P fn (fun e w' => ∃ v, e = .returned v ∧ R v w') .ret (St n f) w := by
  refine ⟨rfl, .tuple #[.agg l.toArray, x], ?_, _, rfl, h⟩
  have h1 : (St n f).tmps.getD t undef = .pointer (some ⟨b, 0, none⟩) := by rw [← hv, ← eval_St]; rfl
  have h2 : (St n f).tmps.getD u undef = x := by rw [← hx, ← eval_St]; rfl
  rw [results_cell_tmp hr]
  rw [h1, h2]
  simp [asAddr, run_loadVar_row w b T ty l.toArray fr d hb hu hdd (by simpa using hs), Result.andThen]
/-! ### plain -/
def zk (k : Int) : Sc := ⟨k, false, false, ByteArray.empty, 0, 0, 0, 0, 0, ByteArray.empty⟩
def mapV (l : List (ByteArray × V)) : V := .mk (zk 7) [] [] l
def nulV : V := .mk (zk 0) [] [] []
def hasF (k : ByteArray) (l : List (ByteArray × V)) : Option V := (l.find? fun kv => decide (kv.1 = k)).map (·.2)
def dropF (k : ByteArray) (l : List (ByteArray × V)) : List (ByteArray × V) := l.filter fun kv => !decide (kv.1 = k)
def setF (k : ByteArray) (x : V) (l : List (ByteArray × V)) : List (ByteArray × V) := l.map fun kv => if kv.1 = k then (kv.1, x) else kv
def putF (k : ByteArray) (x : V) (l : List (ByteArray × V)) : List (ByteArray × V) := if (hasF k l).isSome then setF k x l else l ++ [(k, x)]
def ovl : Nat → V → V → V
  | 0, _, v => v
  | d + 1, b, v => if v.sc.kind = 7 then mapV (v.fields.foldl (fun l kv => if kv.2.sc.kind = 0 then dropF kv.1 l else putF kv.1 (ovl d ((hasF kv.1 l).getD nulV) kv.2) l) (if b.sc.kind = 7 then b.fields else [])) else v
def stepF (d : Nat) (l : List (ByteArray × V)) (kv : ByteArray × V) : List (ByteArray × V) := if kv.2.sc.kind = 0 then dropF kv.1 l else putF kv.1 (ovl d ((hasF kv.1 l).getD nulV) kv.2) l
theorem hasF_take {k : ByteArray} {l : List (ByteArray × V)} {i : Nat} (h : ∀ j, j < i → ∀ kv, l[j]? = some kv → kv.1 ≠ k) (hi : i < l.length) (he : l[i].1 = k) : hasF k l = some l[i].2 := by
  induction l generalizing i with
  | nil => simp at hi
  | cons kv l ih =>
    unfold hasF
    cases i with
    | zero => simp only [List.getElem_cons_zero] at he; simp [List.find?, he]
    | succ i =>
      have h0 : kv.1 ≠ k := h 0 (by omega) kv rfl
      have := ih (i := i) (fun j hj kv' hk => h (j + 1) (by omega) kv' (by simpa using hk)) (by simpa using hi) (by simpa using he)
      unfold hasF at this
      simp [List.find?, h0, this]
theorem hasF_none {k : ByteArray} {l : List (ByteArray × V)} (h : ∀ (j : Nat) kv, l[j]? = some kv → kv.1 ≠ k) : hasF k l = none := by
  unfold hasF
  rw [List.find?_eq_none.2 ?_]
  · rfl
  · intro kv hkv
    obtain ⟨j, hj⟩ := List.getElem?_of_mem hkv
    simp [h j kv hj]
end Go.Dk
end
section
set_option linter.unusedVariables false
set_option linter.unusedSimpArgs false
namespace Go.Dk
open Go Go.RowKit
section
variable {P : Program} {n : Nat} {f : Nat → Value} {w : World} {fn : Func}
theorem results_cell_tmp2 {p u u' : Tmp} {ty : TypeId} (h : fn.results = #[.cell p ty, .tmp u, .tmp u']) (tmps : Array Value) (P : Program) (w : World) :
    (results fn tmps).run P w = ((asAddr (tmps.getD p undef)).run P w).andThen fun a w₁ => ((loadVar ty a).run P w₁).andThen fun v w₂ => .ok (.tuple #[v, tmps.getD u undef, tmps.getD u' undef]) w₂ := by
  simp only [results, h]
  simp [Sem.run_bind, Result.andThen]
theorem ret_cell3 {R : Value → World → Prop} {t u u' T ty b : Nat} {l : List Value} {x y : Value} {fr : Nat × Nat} {d : TypeDesc} (hr : fn.results = #[.cell t ty, .tmp u, .tmp u']) (hv : ev n f (.tmp t) = .pointer (some ⟨b, 0, none⟩)) (hx : ev n f (.tmp u) = x) (hy : ev n f (.tmp u') = y) (hb : w.heap[b]? = some (.cells l.toArray T fr))
    (hu : P.underlying ty = some d) (hdd : (match d with | .struct _ | .array _ _ => true | _ => false) = true) (hs : (P.info? ty).map (·.size) = some l.length) (h : R (.tuple #[.agg l.toArray, x, y]) w) : bodyPost P fn (fun e w' => ∃ v, e = .returned v ∧ R v w') .ret (St n f) w := by
  refine ⟨rfl, .tuple #[.agg l.toArray, x, y], ?_, _, rfl, h⟩
  have h1 : (St n f).tmps.getD t undef = .pointer (some ⟨b, 0, none⟩) := by rw [← hv, ← eval_St]; rfl
  have h2 : (St n f).tmps.getD u undef = x := by rw [← hx, ← eval_St]; rfl
  have h3 : (St n f).tmps.getD u' undef = y := by rw [← hy, ← eval_St]; rfl
  rw [results_cell_tmp2 hr]
  rw [h1, h2, h3]
  simp [asAddr, run_loadVar_row w b T ty l.toArray fr d hb hu hdd (by simpa using hs), Result.andThen]
end
end Go.Dk
end
section
set_option linter.unusedVariables false
set_option linter.unusedSimpArgs false
namespace Go.Dk
open Go Go.RowKit
def nw (m : Nat) : Nat → V → Prop
  | 0, _ => True
  | d + 1, v => v.fields.length ≤ m ∧ ∀ kv ∈ v.fields, nw m d kv.2
def Nw (m : Nat) (v : V) : Prop := ∀ d, nw m d v
theorem nw_mono {m m' : Nat} (h : m ≤ m') : ∀ d v, nw m d v → nw m' d v
  | 0, _, _ => trivial
  | d + 1, v, hv => ⟨Nat.le_trans hv.1 h, fun kv hk => nw_mono h d kv.2 (hv.2 kv hk)⟩
structure Gd (e m : Nat) (v : V) : Prop where
  ok : okd e v
  fine : Fine v
  nw : Nw m v
theorem Gd.mono {e m m' : Nat} {v : V} (h : Gd e m v) (hm : m ≤ m') : Gd e m' v := ⟨h.ok, h.fine, fun d => nw_mono hm d v (h.nw d)⟩
def GdF (e m : Nat) (kv : ByteArray × V) : Prop := kv.1.size ≤ 1048576 ∧ Gd e m kv.2
theorem Gd.field {e m : Nat} {v : V} (h : Gd (e + 1) m v) {kv : ByteArray × V} (hk : kv ∈ v.fields) : GdF e m kv :=
  ⟨(h.fine.field hk).1, h.ok.2.2.2 kv hk, (h.fine.field hk).2, fun d => (h.nw (d + 1)).2 kv hk⟩
theorem gd_nul (e m : Nat) : Gd (e + 1) m nulV := by
  refine ⟨⟨?_, by simp [nulV, V.fields, keysOf], fun x hx => by simp [nulV, V.list] at hx, fun x hx => by simp [nulV, V.fields] at hx⟩, fun d => ?_, fun d => ?_⟩
  · refine ⟨by decide, by decide, ?_, ?_, ?_, ?_, ?_, ?_, ?_⟩ <;> simp [nulV, zk, V.sc, V.bytes, V.list, V.fields] <;> rfl
  · cases d with
    | zero => trivial
    | succ d => exact ⟨by simp [nulV, V.sc, zk], by simp [nulV, V.sc, zk], by simp [nulV, V.bytes], by simp [nulV, V.list], by simp [nulV, V.fields], fun x hx => by simp [nulV, V.list] at hx, fun x hx => by simp [nulV, V.fields] at hx⟩
  · cases d with
    | zero => trivial
    | succ d => exact ⟨by simp [nulV, V.fields], fun x hx => by simp [nulV, V.fields] at hx⟩
theorem hasF_mem {k : ByteArray} {l : List (ByteArray × V)} {x : V} (h : hasF k l = some x) : (k, x) ∈ l := by
  unfold hasF at h
  cases hf : l.find? fun kv => decide (kv.1 = k) with
  | none => rw [hf] at h; cases h
  | some kv =>
    rw [hf] at h
    simp only [Option.map_some, Option.some.injEq] at h
    have h1 := List.mem_of_find?_eq_some hf
    have h2 := List.find?_some hf
    simp at h2
    obtain ⟨a, b⟩ := kv
    simp only at h h2
    subst h h2
    exact h1
theorem hasF_isSome {k : ByteArray} {l : List (ByteArray × V)} : (hasF k l).isSome = true ↔ k ∈ keysOf l := by
  unfold hasF keysOf
  rw [Option.isSome_map, List.find?_isSome]
  simp only [decide_eq_true_eq, List.mem_map]
theorem keys_setF {k : ByteArray} {x : V} {l : List (ByteArray × V)} : keysOf (setF k x l) = keysOf l := by
  unfold keysOf setF
  rw [List.map_map]
  apply List.map_congr_left
  intro kv _
  simp only [Function.comp]
  split <;> rfl
theorem mem_setF {k : ByteArray} {x : V} {l : List (ByteArray × V)} {kv : ByteArray × V} (h : kv ∈ setF k x l) : kv ∈ l ∨ kv = (k, x) := by
  obtain ⟨a, ha, rfl⟩ := List.mem_map.1 h
  split
  · rename_i he; right; rw [he]
  · left; exact ha
theorem mem_putF {k : ByteArray} {x : V} {l : List (ByteArray × V)} {kv : ByteArray × V} (h : kv ∈ putF k x l) : kv ∈ l ∨ kv = (k, x) := by
  unfold putF at h
  split at h
  · exact mem_setF h
  · rcases List.mem_append.1 h with h | h
    · exact .inl h
    · right; simpa using h
theorem len_putF (k : ByteArray) (x : V) (l : List (ByteArray × V)) : (putF k x l).length ≤ l.length + 1 := by
  unfold putF setF
  split <;> simp
theorem nodup_putF {k : ByteArray} {x : V} {l : List (ByteArray × V)} (h : (keysOf l).Nodup) : (keysOf (putF k x l)).Nodup := by
  unfold putF
  split
  · rw [keys_setF]; exact h
  · rename_i hn
    have hk : k ∉ keysOf l := fun hk => hn (hasF_isSome.2 hk)
    unfold keysOf at *
    rw [List.map_append, List.map_cons, List.map_nil]
    exact List.nodup_append.2 ⟨h, by simp, fun a ha b hb => by simp at hb; subst hb; intro e; subst e; exact hk ha⟩
theorem nodup_dropF {k : ByteArray} {l : List (ByteArray × V)} (h : (keysOf l).Nodup) : (keysOf (dropF k l)).Nodup := by
  unfold keysOf dropF at *
  exact (List.filter_sublist.map _).nodup h
theorem hasF_drop {k j : ByteArray} {l : List (ByteArray × V)} (h : k ≠ j) : hasF k (dropF j l) = hasF k l := by
  induction l with
  | nil => rfl
  | cons kv l ih =>
    unfold hasF dropF at *
    by_cases h1 : kv.1 = j
    · have h2 : kv.1 ≠ k := fun e => h (e.symm.trans h1)
      simp only [List.filter_cons, h1, decide_true, Bool.not_true, List.find?_cons]
      have : decide (j = k) = false := by simp; exact fun e => h e.symm
      simp only [this]
      simpa using ih
    · by_cases h2 : kv.1 = k
      · simp [List.filter_cons, h1, List.find?_cons, h2, h]
      · simpa [List.filter_cons, h1, List.find?_cons, h2] using ih
theorem hasF_put {k j : ByteArray} {x : V} {l : List (ByteArray × V)} (h : k ≠ j) : hasF k (putF j x l) = hasF k l := by
  unfold putF
  split
  · rename_i hs
    clear hs
    induction l with
    | nil => rfl
    | cons kv l ih =>
      unfold hasF setF at *
      by_cases h1 : kv.1 = j
      · have h2 : j ≠ k := fun e => h e.symm
        simpa [List.find?_cons, h1, h2] using ih
      · by_cases h2 : kv.1 = k
        · rw [List.map_cons, if_neg h1, List.find?_cons_of_pos (by simp [h2]), List.find?_cons_of_pos (by simp [h2])]
        · simpa [List.find?_cons, h1, h2] using ih
  · unfold hasF
    rw [List.find?_append]
    have : decide (j = k) = false := by simp; exact fun e => h e.symm
    simp [List.find?_cons, this]
theorem hasF_step {d : Nat} {k : ByteArray} {l : List (ByteArray × V)} {kv : ByteArray × V} (h : k ≠ kv.1) : hasF k (stepF d l kv) = hasF k l := by
  unfold stepF
  split
  · exact hasF_drop h
  · exact hasF_put h
structure Lay (e mb mo : Nat) (l0 fs : List (ByteArray × V)) (i : Nat) (l : List (ByteArray × V)) : Prop where
  len : l.length ≤ l0.length + i
  good : ∀ kv ∈ l, GdF e (mb + mo) kv
  nd : (keysOf l).Nodup
  rest : ∀ j, i ≤ j → ∀ kv, fs[j]? = some kv → hasF kv.1 l = hasF kv.1 l0
theorem Lay.start {e mb mo : Nat} {l0 fs : List (ByteArray × V)} (h : ∀ kv ∈ l0, GdF e mb kv) (hn : (keysOf l0).Nodup) : Lay e mb mo l0 fs 0 l0 :=
  ⟨by omega, fun kv hk => ⟨(h kv hk).1, (h kv hk).2.mono (by omega)⟩, hn, fun _ _ _ _ => rfl⟩
theorem Lay.base {e mb mo i : Nat} {l0 fs l : List (ByteArray × V)} (h : Lay (e + 1) mb mo l0 fs i l) (h0 : ∀ kv ∈ l0, GdF (e + 1) mb kv) {kv : ByteArray × V} (hi : fs[i]? = some kv) : Gd (e + 1) mb ((hasF kv.1 l).getD nulV) := by
  rw [h.rest i (Nat.le_refl _) kv hi]
  cases hh : hasF kv.1 l0 with
  | none => exact gd_nul e mb
  | some u => exact (h0 _ (hasF_mem hh)).2
theorem Lay.next {e mb mo i d : Nat} {l0 fs l : List (ByteArray × V)} (h : Lay e mb mo l0 fs i l) {kv : ByteArray × V} (hi : fs[i]? = some kv) (hk : kv.1.size ≤ 1048576) (hn : (keysOf fs).Nodup) (hg : Gd e (mb + mo) (ovl d ((hasF kv.1 l).getD nulV) kv.2)) : Lay e mb mo l0 fs (i + 1) (stepF d l kv) := by
  have hne : ∀ j, i + 1 ≤ j → ∀ kv', fs[j]? = some kv' → kv'.1 ≠ kv.1 := by
    intro j hj kv' hj' e
    have h1 : (keysOf fs)[i]? = some kv.1 := by unfold keysOf; rw [List.getElem?_map, hi]; rfl
    have h2 : (keysOf fs)[j]? = some kv.1 := by unfold keysOf; rw [List.getElem?_map, hj', ← e]; rfl
    have := (List.getElem?_inj (List.getElem?_eq_some_iff.1 h1).1 hn).1 (h1.trans h2.symm)
    omega
  refine ⟨?_, ?_, ?_, fun j hj kv' hj' => by rw [hasF_step (hne j hj kv' hj'), h.rest j (by omega) kv' hj']⟩
  · have := h.len
    unfold stepF
    split
    · have := List.length_filter_le (fun kv' => !decide (kv'.1 = kv.1)) l
      unfold dropF; omega
    · have := len_putF kv.1 (ovl d ((hasF kv.1 l).getD nulV) kv.2) l
      omega
  · intro x hx
    unfold stepF at hx
    split at hx
    · exact h.good x (List.mem_filter.1 hx).1
    · rcases mem_putF hx with hx | rfl
      · exact h.good x hx
      · exact ⟨hk, hg⟩
  · unfold stepF
    split
    · exact nodup_dropF h.nd
    · exact nodup_putF h.nd
end Go.Dk
end
section
set_option linter.unusedVariables false
set_option linter.unusedSimpArgs false
namespace Go.Dk
open Go Go.RowKit
theorem RowsF.at {A : Nat → Prop} {w : World} : ∀ (fs : List (ByteArray × V)) (rs : List (List Value)) (j : Nat) (kv : ByteArray × V), RowsF A w fs rs → fs[j]? = some kv → ∃ l, rs[j]? = some (.string kv.1 :: l) ∧ RepV A w kv.2 l
  | [], [], j, kv, _, h => by simp at h
  | x :: fs, r :: rs, 0, kv, ⟨⟨l, e, hv⟩, _⟩, h => by
    simp at h; subst h; subst e
    exact ⟨l, rfl, hv⟩
  | x :: fs, r :: rs, j + 1, kv, ⟨_, hr⟩, h => by
    obtain ⟨l, h1, h2⟩ := RowsF.at fs rs j kv hr (by simpa using h)
    exact ⟨l, by simpa using h1, h2⟩
  | [], _ :: _, _, _, h, _ => h.elim
  | _ :: _, [], _, _, h, _ => h.elim
theorem RowsF.set {A : Nat → Prop} {w : World} {u : V} {l : List Value} (hu : RepV A w u l) : ∀ (fs : List (ByteArray × V)) (rs : List (List Value)) (j : Nat) (kv : ByteArray × V), RowsF A w fs rs → fs[j]? = some kv → RowsF A w (fs.set j (kv.1, u)) (rs.set j (.string kv.1 :: l))
  | [], [], j, kv, _, h => by simp at h
  | x :: fs, r :: rs, 0, kv, ⟨_, hr⟩, h => by
    simp at h; subst h
    exact ⟨⟨l, rfl, hu⟩, hr⟩
  | x :: fs, r :: rs, j + 1, kv, ⟨h0, hr⟩, h => by
    exact ⟨h0, RowsF.set hu fs rs j kv hr (by simpa using h)⟩
  | [], _ :: _, _, _, h, _ => h.elim
  | _ :: _, [], _, _, h, _ => h.elim
theorem RowsF.lens {A : Nat → Prop} {w : World} : ∀ (fs : List (ByteArray × V)) (rs : List (List Value)), RowsF A w fs rs → ∀ r ∈ rs, r.length = 14
  | [], [], _, r, h => by cases h
  | _ :: fs, _ :: rs, ⟨⟨l, e, hv⟩, hr⟩, r, h => by
    rcases List.mem_cons.1 h with rfl | h
    · rw [e, List.length_cons, hv.len]
    · exact RowsF.lens fs rs hr r h
  | [], _ :: _, h, _, _ => h.elim
  | _ :: _, [], h, _, _ => h.elim
theorem flat_at : ∀ (rs : List (List Value)) (j : Nat) (r : List Value), (∀ r ∈ rs, r.length = 14) → rs[j]? = some r → (rs.flatten.drop (j * 14)).take r.length = r
  | [], j, r, _, h => by simp at h
  | x :: rs, 0, r, hl, h => by
    simp at h; subst h
    simp
  | x :: rs, j + 1, r, hl, h => by
    have h1 : x.length = 14 := hl x (by simp)
    rw [List.flatten_cons, show (j + 1) * 14 = x.length + j * 14 by omega, List.drop_append, List.drop_eq_nil_of_le (by omega), List.nil_append, show x.length + j * 14 - x.length = j * 14 by omega]
    exact flat_at rs j r (fun r hr => hl r (List.mem_cons_of_mem _ hr)) (by simpa using h)
theorem RowAt.flat {A : Nat → Prop} {w : World} {fs : List (ByteArray × V)} {rs : List (List Value)} {g j : Nat} {r : List Value} (h : RowAt w g 0 rs.flatten) (hr : ∀ r ∈ rs, r.length = 14) (hj : rs[j]? = some r) : RowAt w g (0 + j * 14) r :=
  h.sub (j * 14) (flat_at rs j r hr hj)
def Ptr (w : World) (x : Value) (v : V) : Prop := ∃ a b0 bs ls fs, x = .pointer a ∧ (a.isSome = true → a = some ⟨b0, 0, none⟩ ∧ RowAt w b0 0 (vrow v.sc bs ls fs) ∧ Val w v (vrow v.sc bs ls fs)) ∧ (a.isSome = false → v = nulV)
theorem Ptr.up {w w' : World} {x : Value} {v : V} (h : Ptr w x v) (hb : Below w.heap.size w w') : Ptr w' x v := by
  obtain ⟨a, b0, bs, ls, fs, e, h1, h2⟩ := h
  exact ⟨a, b0, bs, ls, fs, e, fun ha => ⟨(h1 ha).1, (h1 ha).2.1.up hb, (h1 ha).2.2.up hb⟩, h2⟩
theorem Ptr.nil {w : World} : Ptr w (.pointer none) nulV := ⟨none, 0, .nilFunc, .nilFunc, .nilFunc, rfl, (fun h => by cases h), fun _ => rfl⟩
theorem Ptr.of {w : World} {b : Nat} {r : List Value} {v : V} (hr : RowAt w b 0 r) (hv : Val w v r) : Ptr w (.pointer (some ⟨b, 0, none⟩)) v := by
  obtain ⟨bs, ls, fs, rfl, _⟩ := hv.open
  exact ⟨_, b, bs, ls, fs, rfl, fun _ => ⟨rfl, hr, hv⟩, fun h => by cases h⟩
theorem Dn.swap {w0 w w' : World} {L : List (Nat × Obj)} {R : List Row} {r : Row} {ids : List Nat} {v' : Value} (cx : Cxr w0 w L (r :: R)) (hi : ∀ i ∈ ids, i ∈ L.map (·.1)) (hs : w.heap.size ≤ w'.heap.size) (hn : ∀ q, v'.ownBlock = some q → w.heap.size ≤ q) : ∀ b, Dn w0 w ids r.v b ∨ r.v.ownBlock = some b → Dn w0 w' ids v' b := by
  rintro b (h | h)
  · exact ⟨⟨h.1.1, Nat.lt_of_lt_of_le h.1.2 hs⟩, h.2.1, fun e => by have := hn b e; have := h.1.2; omega⟩
  · have := Made_lt cx.head b h
    exact ⟨⟨this.1, Nat.lt_of_lt_of_le this.2 hs⟩, fun hm => cx.off r (List.mem_cons_self ..) b h (hi b hm), fun e => by have := hn b e; omega⟩
theorem RepB.one {A : Nat → Prop} {w : World} {s : Value} {l : List UInt8} (h : RepB A w s l) : s.oneCell' = true := by
  obtain ⟨_, _, _, _, rfl, _⟩ := h.form
  rfl
theorem repB_nil {A : Nat → Prop} {w : World} : RepB A w (.slice none 0 0) [] := ⟨0, 0, .inl ⟨rfl, rfl⟩, fun j x hj => by simp at hj⟩
theorem repL_nil {A : Nat → Prop} {w : World} : RepL A w (.slice none 0 0) [] := ⟨0, 0, .inl ⟨rfl, rfl⟩, trivial⟩
theorem Cxr.ownRow {w0 w : World} {L : List (Nat × Obj)} {R : List Row} {e k n : Nat} {v : Value} {xs : List Value} (cx : Cxr w0 w L (⟨e, k, v, n, xs⟩ :: R)) : ∃ a c, v = .slice a n c ∧ (0 < n → ∃ g, a = some ⟨g, 0, none⟩ ∧ RowAt w g 0 xs) := own_row cx.head
end Go.Dk
end
section
set_option linter.unusedVariables false
set_option linter.unusedSimpArgs false
namespace Go.Dk
open Go Go.RowKit
theorem RowsF.append {A : Nat → Prop} {w : World} : ∀ (fs fs' : List (ByteArray × V)) (rs rs' : List (List Value)), RowsF A w fs rs → RowsF A w fs' rs' → RowsF A w (fs ++ fs') (rs ++ rs')
  | [], fs', [], rs', _, h => h
  | _ :: fs, fs', _ :: rs, rs', h, h' => ⟨h.1, RowsF.append fs fs' rs rs' h.2 h'⟩
  | [], _, _ :: _, _, h, _ => h.elim
  | _ :: _, _, [], _, h, _ => h.elim
theorem RowsF.take {A : Nat → Prop} {w : World} : ∀ (fs : List (ByteArray × V)) (rs : List (List Value)) (k : Nat), RowsF A w fs rs → RowsF A w (fs.take k) (rs.take k)
  | [], [], k, _ => by simp [RowsF]
  | _ :: fs, _ :: rs, 0, h => by simp [RowsF]
  | _ :: fs, _ :: rs, k + 1, h => ⟨h.1, RowsF.take fs rs k h.2⟩
  | [], _ :: _, _, h => h.elim
  | _ :: _, [], _, h => h.elim
theorem RowsF.drop {A : Nat → Prop} {w : World} : ∀ (fs : List (ByteArray × V)) (rs : List (List Value)) (k : Nat), RowsF A w fs rs → RowsF A w (fs.drop k) (rs.drop k)
  | [], [], k, _ => by simp [RowsF]
  | _ :: fs, _ :: rs, 0, h => h
  | _ :: fs, _ :: rs, k + 1, h => RowsF.drop fs rs k h.2
  | [], _ :: _, _, h => h.elim
  | _ :: _, [], _, h => h.elim
theorem RowsF.one {A : Nat → Prop} {w : World} : ∀ (fs : List (ByteArray × V)) (rs : List (List Value)), RowsF A w fs rs → rs.flatten.all (·.oneCell') = true
  | [], [], _ => rfl
  | kv :: fs, r :: rs, ⟨⟨l, e, h⟩, hr⟩ => by
    subst e
    rw [List.flatten_cons, List.all_append, RowsF.one fs rs hr, List.all_cons, h.one]; rfl
  | [], _ :: _, h => h.elim
  | _ :: _, [], h => h.elim
theorem flat_take {rs : List (List Value)} {k j : Nat} {u : Value} (h : (rs.take k).flatten[j]? = some u) : rs.flatten[j]? = some u := by
  have e : rs.flatten = (rs.take k).flatten ++ (rs.drop k).flatten := by rw [← List.flatten_append, List.take_append_drop]
  rw [e, List.getElem?_append_left (List.getElem?_eq_some_iff.1 h).1]
  exact h
theorem flat_drop {rs : List (List Value)} {k j n : Nat} {u : Value} (hn : (rs.take k).flatten.length = n) (h : (rs.drop k).flatten[j]? = some u) : rs.flatten[n + j]? = some u := by
  have e : rs.flatten = (rs.take k).flatten ++ (rs.drop k).flatten := by rw [← List.flatten_append, List.take_append_drop]
  rw [e, List.getElem?_append_right (by omega), hn, Nat.add_sub_cancel_left]
  exact h
theorem sliced_lo {w : World} {b o len cap h : Nat} {rs : List (List Value)} (hr : RowAt w b o rs.flatten) (hl : (rs.take h).flatten.length = h * 14) : ∃ ad, sliced (some ⟨b, o, none⟩) h len cap 14 = .slice (some ad) (len - h) (cap - h) ∧ ∀ j u, (rs.drop h).flatten[j]? = some u → cap ≠ h → w.cell? (ad.add j) = some u := by
  unfold sliced
  by_cases hc : cap = h
  · rw [if_pos hc]
    exact ⟨_, rfl, fun j u _ hne => absurd hc hne⟩
  · rw [if_neg hc]
    refine ⟨⟨b, o + h * 14, none⟩, ?_, fun j u hj _ => ?_⟩
    · simp [add_addr]
    · rw [add_addr, Nat.add_assoc]
      exact hr _ _ (flat_drop hl hj)
theorem V.ind2 {p : V → Prop} (h : ∀ v, (∀ x ∈ v.list, p x) → (∀ kv ∈ v.fields, p kv.2) → p v) : ∀ v, p v := V.ind fun s b l f hl hf => h (.mk s b l f) hl hf
def strB (l : List UInt8) : ByteArray := strOf (l.map fun u => (u.toNat : Int))
section
variable {P : Program} {o : Oper} {w : World} {ρ : Operand → Value}
theorem v_b2sR {s t e : TypeId} {x : Operand} {A : Nat → Prop} {v : Value} {l : List UInt8} (ho : o.op = .convert s t x) (hs : P.underlying s = some (.slice e)) (he : P.underlying e = some (.int .u8)) (ht : P.underlying t = some .string) (hr : RepB A w v l) (hx : ρ x = v) : (execOp ρ o).run P w = .ok (.value (.string (strB l))) w := by
  obtain ⟨a, c, rfl, hc⟩ := repB_cells hr
  unfold execOp; rw [ho]
  cases a with
  | none =>
    have h0 : l = [] := by
      obtain ⟨b, o, hsl, _⟩ := hr
      rcases hsl with ⟨h0, _⟩ | ⟨ad, cap, e, _⟩
      · exact List.eq_nil_of_length_eq_zero h0
      · cases e
    subst h0
    simp [hx, run_convert_bytes_string w s t e _ _ _ hs he ht, Conv.bytesToString, strB, strOf]
  | some ad =>
    have e1 : (l.map fun u => (u.toNat : Int)).map (Value.int .u8) = l.map byteVal := by rw [List.map_map]; rfl
    have hl := run_loadCells_list (P := P) w ad (l.map byteVal) (fun j v hv => hc ad rfl j v hv)
    rw [List.length_map, ← e1] at hl
    have := run_bytesToString (P := P) w ad l.length c _ hl
    simp [hx, run_convert_bytes_string w s t e _ _ _ hs he ht, this, strB, strOf]
end
end Go.Dk
namespace Go.Proofs.Ytmkihcdcgkdilaa
open Go Go.Dk Go.RowKit
set_option maxRecDepth 100000 in
theorem el31 : Try.prog.underlying 31 = some (.slice (Try.prog.elem 31)) := Try.underlying31
set_option maxRecDepth 100000 in
theorem es31 : (Try.prog.info? (Try.prog.elem 31)).map (·.size) = some 14 := sz77
end Go.Proofs.Ytmkihcdcgkdilaa
end
section
set_option linter.unusedVariables false
set_option linter.unusedSimpArgs false
namespace Go.Dk
open Go Go.RowKit
def Da (A : Nat → Prop) (w0 w : World) (ids : List Nat) (v : Value) (b : Nat) : Prop := A b ∨ Dn w0 w ids v b
section
variable {A : Nat → Prop} {w0 wk w w' : World} {ids : List Nat} {v v' : Value}
theorem Da.lt (hA : ∀ b, A b → b < w0.heap.size) (h0 : w0.heap.size ≤ w.heap.size) : ∀ b, Da A w0 w ids v b → b < w.heap.size := by
  rintro b (h | h)
  · exact Nat.lt_of_lt_of_le (hA b h) h0
  · exact Dn.lt b h
theorem Da.step {m : Nat} (hs : wk.heap.size ≤ w'.heap.size) (hm : wk.heap.size ≤ m) (hn : ∀ q, v'.ownBlock = some q → v.ownBlock = some q ∨ m ≤ q) : ∀ b, Da A w0 wk ids v b → Da A w0 w' ids v' b := by
  rintro b (h | h)
  · exact .inl h
  · exact .inr (Dn.step hs hm hn b h)
theorem Kp.da (hA : ∀ b, A b → b < w0.heap.size) (h0 : w0.heap.size ≤ w.heap.size) (ids : List Nat) (v : Value) : Kp (Da A w0 w ids v) w w := Kp.refl (Da.lt hA h0)
theorem Kp.daId {g : Nat} (hA : ∀ b, A b → b < w0.heap.size) (h : Kp (Da A w0 wk ids v) wk w) (hg : w.grownBy w' (some g)) (hi : g ∈ ids) (hl : w0.heap.size ≤ g) : Kp (Da A w0 wk ids v) wk w' :=
  h.grown hg fun b hb e => by
    simp at e; subst e
    rcases hb with hb | hb
    · have := hA _ hb; omega
    · exact hb.2.1 hi
theorem Kp.daOwn {o : Option Nat} (hA : ∀ b, A b → b < w0.heap.size) (h : Kp (Da A w0 wk ids v) wk w) (hg : w.grownBy w' o) (ho : o = v.ownBlock) (hl : ∀ q, v.ownBlock = some q → w0.heap.size ≤ q) : Kp (Da A w0 wk ids v) wk w' :=
  h.grown hg fun b hb e => by
    subst ho
    rcases hb with hb | hb
    · have := hA _ hb; have := hl b e; omega
    · exact hb.2.2 e
theorem Da.swap {L : List (Nat × Obj)} {R : List Row} {r : Row} (cx : Cxr w0 w L (r :: R)) (hi : ∀ i ∈ ids, i ∈ L.map (·.1)) (hs : w.heap.size ≤ w'.heap.size) (hn : ∀ q, v'.ownBlock = some q → w.heap.size ≤ q) : ∀ b, Da A w0 w ids r.v b ∨ r.v.ownBlock = some b → Da A w0 w' ids v' b := by
  rintro b ((h | h) | h)
  · exact .inl h
  · exact .inr (Dn.swap cx hi hs hn b (.inl h))
  · exact .inr (Dn.swap cx hi hs hn b (.inr h))
theorem Da.res {wc wc' : World} (hA : ∀ b, A b → b < w0.heap.size) (h0 : w0.heap.size ≤ wc.heap.size) (hs0 : wk.heap.size ≤ wc.heap.size) (hs : wc'.heap.size ≤ w'.heap.size) (hcc : wc.heap.size ≤ wc'.heap.size) (hi : ∀ i ∈ ids, i < wc.heap.size) (hv : ∀ q, v.ownBlock = some q → q < wc.heap.size) {m : Nat} (hm : wc'.heap.size ≤ m) (hn : ∀ q, v'.ownBlock = some q → v.ownBlock = some q ∨ m ≤ q) : ∀ b, (Da A w0 wk ids v b ∨ Fr wc wc' b) → Da A w0 w' ids v' b := by
  rintro b (h | h)
  · exact Da.step (by omega) (by omega) hn b h
  · exact .inr (Dn.new h0 hs hi hv hm hn b h)
end
theorem Kp.res {A : Nat → Prop} {w0 wk wc wc' : World} {ids : List Nat} {v : Value} (hA : ∀ b, A b → b < w0.heap.size) (h0 : w0.heap.size ≤ wk.heap.size) (hs : wk.heap.size ≤ wc.heap.size) (hw : Below wc.heap.size wc wc') : Kp (fun b => Da A w0 wk ids v b ∨ Fr wc wc' b) wc' wc' :=
  Kp.refl fun b hb => by
    rcases hb with hb | hb
    · have := Da.lt hA h0 b hb; have := hw.size; omega
    · exact hb.2
theorem Kp.resOwn {A : Nat → Prop} {w0 wk wc wc' w w' : World} {ids : List Nat} {v : Value} {o : Option Nat} (hA : ∀ b, A b → b < w0.heap.size) (h : Kp (fun b => Da A w0 wk ids v b ∨ Fr wc wc' b) wc' w) (hg : w.grownBy w' o) (ho : o = v.ownBlock) (hl : ∀ q, v.ownBlock = some q → w0.heap.size ≤ q ∧ q < wc.heap.size) : Kp (fun b => Da A w0 wk ids v b ∨ Fr wc wc' b) wc' w' :=
  h.grown hg fun b hb e => by
    subst ho
    have := hl b e
    rcases hb with (hb | hb) | hb
    · have := hA _ hb; omega
    · exact hb.2.2 e
    · have := hb.1; omega
def Src (w : World) (s : Value) (m : Nat) (news : List Value) : Prop := (s = .slice none 0 0 ∧ m = 0 ∧ news = []) ∨ ∃ ad c, s = .slice (some ad) m c ∧ ∀ j u, news[j]? = some u → w.cell? (ad.add j) = some u
theorem Src.up {w0 w : World} {s : Value} {m : Nat} {news : List Value} (h : Src w0 s m news) (hb : Below w0.heap.size w0 w) : Src w s m news := by
  rcases h with h | ⟨ad, c, e, h⟩
  · exact .inl h
  · refine .inr ⟨ad, c, e, fun j u hu => ?_⟩
    have hc := h j u hu
    rw [World.cell?_of_block (w := w0) (a := ad.add j) (hb.block _ (by have := block_lt_of_cell hc; simpa [Addr.add] using this))]
    exact hc
theorem src_fields {A : Nat → Prop} {w : World} {s : Value} {fs : List (ByteArray × V)} (h : RepF A w s fs) : ∃ rs, RowsF A w fs rs ∧ Src w s fs.length rs.flatten ∧ rs.flatten.length = fs.length * 14 ∧ rs.flatten.all (·.oneCell') = true := by
  obtain ⟨b, o, hs, hr⟩ := h
  obtain ⟨rs, h1, h2, h3, h4⟩ := RepFs.rows fs o hr
  refine ⟨rs, h1, ?_, h3, h4⟩
  rcases hs with ⟨h0, e⟩ | ⟨ad, c, e, _, ha⟩
  · refine .inl ⟨e, h0, List.eq_nil_of_length_eq_zero (by omega)⟩
  · refine .inr ⟨ad, c, e, fun j u hu => ?_⟩
    have h0 : 0 < fs.length := by have := (List.getElem?_eq_some_iff.1 hu).1; omega
    obtain ⟨rfl, _⟩ := ha h0
    rw [add_addr]
    exact h2 j u hu
section
variable {P : Program} {ops : Array Oper} {Q : Exit → Act → World → Prop} {rest : List Oper} {o : Oper} {n : Nat} {f : Nat → Value} {w w0 : World} {L : List (Nat × Obj)} {R : List Row}
theorem s_appendS {s x : Operand} {t e size bytes : Nat} {v sv : Value} {k m d : Nat} {xs news : List Value} (cx : Cxr w0 w L (⟨e, size, v, k, xs⟩ :: R)) (ei : EI P e size bytes) (ht : P.underlying t = some (.slice e))
    (hg : o.guard = none) (hd : o.dst = some d) (ho : o.op = .call { callee := .builtin .append, args := #[s, x], argTypes := #[t, t] }) (hs : ev n f s = v) (hx : ev n f x = sv) (hsrc : Src w sv m news)
    (hl : news.length = m * size) (h1 : news.all (·.oneCell') = true) (hb : (k + m) * bytes ≤ 140737488355328)
    (h : ∀ v' w', Cxr w0 w' L (⟨e, size, v', k + m, xs ++ news⟩ :: R) → w.grownBy w' v.ownBlock → (∀ q, v'.ownBlock = some q → v.ownBlock = some q ∨ w.heap.size ≤ q) → wpList P ops Q rest (St n (upd f d v')) w') : wpList P ops Q (o :: rest) (St n f) w := by
  rcases hsrc with ⟨rfl, rfl, rfl⟩ | ⟨ad, c, rfl, hc⟩
  · refine s_append0 cx ei ht hg hd ho hs hx (h v w ?_ ⟨rfl, rfl, rfl, Nat.le_refl _, fun _ _ _ => rfl⟩ fun q hq => .inl hq)
    simpa using cx
  · exact s_appendH cx ei ht hg hd ho hs hx hc hl h1 hb h
end
section
variable {P : Program} {ops : Array Oper} {pu : List (Nat × Nat)} {Q : Exit → Act → World → Prop} {S : World → Prop} {w : World} {l : Array Bool} {k : Nat} {a : Act}
theorem x_three {i j m : Nat} {o u t : Oper} (hr : Region.ready .any ops l = [i, j, m]) (ho : ops[i]? = some o) (hu : ops[j]? = some u) (ht : ops[m]? = some t) (h : wpList P ops (Fin0 fun a' w' => (S w' ∨ lateB ops pu i = true) ∧ wpX P ops pu Q S k (l.setIfInBounds i true) a' w') [o] a w)
    (h' : wpList P ops (Fin0 fun a' w' => (S w' ∨ lateB ops pu j = true) ∧ wpX P ops pu Q S k (l.setIfInBounds j true) a' w') [u] a w) (h'' : wpList P ops (Fin0 fun a' w' => (S w' ∨ lateB ops pu m = true) ∧ wpX P ops pu Q S k (l.setIfInBounds m true) a' w') [t] a w) : wpX P ops pu Q S (k + 1) l a w := by
  refine ⟨fun h0 => ?_, ?_⟩
  · rw [hr] at h0; cases h0
  · rw [hr]
    intro x hx
    have hx' : x = i ∨ x = j ∨ x = m := by simpa using hx
    rcases hx' with rfl | rfl | rfl
    · exact ⟨o, ho, h⟩
    · exact ⟨u, hu, h'⟩
    · exact ⟨t, ht, h''⟩
end
end Go.Dk
end
section
set_option linter.unusedVariables false
namespace Go.Dk
open Go Go.RowKit
section
variable {P : Program} {ops : Array Oper} {Q : Exit → Act → World → Prop} {rest : List Oper} {o : Oper} {n : Nat} {f : Nat → Value} {w w0 : World} {L : List (Nat × Obj)} {R : List Row}
end
end Go.Dk
end
section
set_option linter.unusedVariables false
namespace Go.Dk
open Go
def cmpL : List UInt8 → List UInt8 → Int
  | [], [] => 0
  | [], _ :: _ => -1
  | _ :: _, [] => 1
  | x :: a, y :: b => if x = y then cmpL a b else if x < y then -1 else 1
theorem cmpL_refl : ∀ a, cmpL a a = 0
  | [] => rfl
  | x :: a => by simp [cmpL, cmpL_refl a]
theorem cmpL_swap : ∀ a b, cmpL a b = - cmpL b a
  | [], [] => rfl
  | [], _ :: _ => rfl
  | _ :: _, [] => rfl
  | x :: a, y :: b => by
    unfold cmpL
    by_cases h : x = y
    · subst h; simpa using cmpL_swap a b
    · rw [if_neg h, if_neg (Ne.symm h)]
      by_cases h1 : x < y
      · have h2 : ¬ y < x := fun h3 => by simp [UInt8.lt_iff_toNat_lt] at h1 h3; omega
        rw [if_pos h1, if_neg h2]
      · have h2 : y < x := by
          rcases Nat.lt_trichotomy x.toNat y.toNat with h3 | h3 | h3
          · exact absurd (UInt8.lt_iff_toNat_lt.2 h3) h1
          · exact absurd (UInt8.toNat_inj.1 h3) h
          · exact UInt8.lt_iff_toNat_lt.2 h3
        rw [if_neg h1, if_pos h2]; rfl
theorem cmpL_zero : ∀ a b, cmpL a b = 0 → a = b
  | [], [], _ => rfl
  | [], _ :: _, h => by simp [cmpL] at h
  | _ :: _, [], h => by simp [cmpL] at h
  | x :: a, y :: b, h => by
    unfold cmpL at h
    by_cases hx : x = y
    · rw [if_pos hx] at h; rw [hx, cmpL_zero a b h]
    · rw [if_neg hx] at h; split at h <;> simp at h
theorem cmpL_trans : ∀ a b c, cmpL a b < 0 → cmpL b c < 0 → cmpL a c < 0
  | [], [], _, h, _ => by simp [cmpL] at h
  | [], _ :: _, [], _, h => by simp [cmpL] at h
  | [], _ :: _, _ :: _, _, _ => by simp [cmpL]
  | _ :: _, [], _, h, _ => by simp [cmpL] at h
  | _ :: _, _ :: _, [], _, h => by simp [cmpL] at h
  | x :: a, y :: b, z :: c, h1, h2 => by
    unfold cmpL at h1 h2 ⊢
    by_cases hxy : x = y
    · subst hxy
      rw [if_pos rfl] at h1
      by_cases hxz : x = z
      · rw [if_pos hxz] at h2 ⊢; exact cmpL_trans a b c h1 h2
      · rw [if_neg hxz] at h2 ⊢; exact h2
    · rw [if_neg hxy] at h1
      have l1 : x < y := by
        by_cases h : x < y
        · exact h
        · rw [if_neg h] at h1; simp at h1
      by_cases hyz : y = z
      · subst hyz; rw [if_neg hxy, if_pos l1]; decide
      · rw [if_neg hyz] at h2
        have l2 : y < z := by
          by_cases h : y < z
          · exact h
          · rw [if_neg h] at h2; simp at h2
        have l3 : x < z := UInt8.lt_iff_toNat_lt.2 (Nat.lt_trans (UInt8.lt_iff_toNat_lt.1 l1) (UInt8.lt_iff_toNat_lt.1 l2))
        have n3 : x ≠ z := fun e => by subst e; exact absurd (UInt8.lt_iff_toNat_lt.1 l3) (Nat.lt_irrefl _)
        rw [if_neg n3, if_pos l3]; decide
theorem cmpL_drop : ∀ (n : Nat) (a b : List UInt8), n ≤ a.length → n ≤ b.length → (∀ i, i < n → a[i]? = b[i]?) → cmpL a b = cmpL (a.drop n) (b.drop n)
  | 0, a, b, _, _, _ => rfl
  | n + 1, [], _, h, _, _ => by simp at h
  | n + 1, _ :: _, [], _, h, _ => by simp at h
  | n + 1, x :: a, y :: b, ha, hb, h => by
    have h0 := h 0 (by omega)
    simp at h0
    subst h0
    have e : cmpL (x :: a) (x :: b) = cmpL a b := by simp [cmpL]
    rw [e, List.drop_succ_cons, List.drop_succ_cons]
    exact cmpL_drop n a b (by simpa using ha) (by simpa using hb) fun i hi => by simpa using h (i + 1) (by omega)
theorem cmp_eq (a b : ByteArray) : Extern.BytealgCompare.cmp a b = cmpL a.data.toList b.data.toList := by
  have ga : ∀ i, i < a.size → a.data.toList[i]? = some a[i]! := fun i hi => by
    have : i < a.data.toList.length := by simpa using hi
    rw [List.getElem?_eq_getElem this]
    simp [getElem!_pos a i hi]
    rfl
  have gb : ∀ i, i < b.size → b.data.toList[i]? = some b[i]! := fun i hi => by
    have : i < b.data.toList.length := by simpa using hi
    rw [List.getElem?_eq_getElem this]
    simp [getElem!_pos b i hi]
    rfl
  have la : a.data.toList.length = a.size := by simp
  have lb : b.data.toList.length = b.size := by simp
  unfold Extern.BytealgCompare.cmp
  cases hf : (List.range (min a.size b.size)).find? fun i => a[i]! != b[i]! with
  | none =>
    have hall : ∀ i, i < min a.size b.size → a[i]! = b[i]! := fun i hi => by
      have := List.find?_eq_none.1 hf i (List.mem_range.2 hi)
      simpa using this
    rw [cmpL_drop (min a.size b.size) _ _ (by omega) (by omega) fun i hi => by rw [ga i (by omega), gb i (by omega), hall i hi]]
    simp only
    by_cases h1 : a.size < b.size
    · rw [if_pos h1, Nat.min_eq_left (by omega), List.drop_eq_nil_of_le (by omega), List.drop_eq_getElem_cons (by omega)]
      rfl
    · rw [if_neg h1]
      by_cases h2 : a.size > b.size
      · rw [if_pos h2, Nat.min_eq_right (by omega), show b.data.toList.drop b.size = [] from List.drop_eq_nil_of_le (by omega), List.drop_eq_getElem_cons (by omega)]
        rfl
      · rw [if_neg h2, List.drop_eq_nil_of_le (by omega), List.drop_eq_nil_of_le (by omega)]
        rfl
  | some i =>
    have hi : i < min a.size b.size := List.mem_range.1 (List.mem_of_find?_eq_some hf)
    have hne : a[i]! ≠ b[i]! := by have := List.find?_some hf; simpa using this
    have hbef : ∀ j, j < i → a[j]! = b[j]! := fun j hj => by
      obtain ⟨_, as1, as2, he, hall⟩ := List.find?_eq_some_iff_append.1 hf
      have hl : as1 = List.range i := by
        have h1 : (List.range (min a.size b.size)).take as1.length = as1 := by rw [he]; simp
        have h2 : (List.range (min a.size b.size))[as1.length]? = some i := by rw [he]; simp
        have h3 := List.getElem?_eq_some_iff.1 h2
        obtain ⟨h4, h5⟩ := h3
        simp at h5
        rw [h5] at h1
        rw [← h1, List.take_range]
        congr 1
        omega
      have := hall j (by rw [hl]; exact List.mem_range.2 hj)
      simpa using this
    rw [cmpL_drop i _ _ (by omega) (by omega) fun j hj => by rw [ga j (by omega), gb j (by omega), hbef j hj]]
    rw [List.drop_eq_getElem_cons (show i < a.data.toList.length by omega), List.drop_eq_getElem_cons (show i < b.data.toList.length by omega)]
    have ea : a.data.toList[i]'(by omega) = a[i]! := by have := ga i (by omega); rw [List.getElem?_eq_getElem (by omega)] at this; exact Option.some.inj this
    have eb : b.data.toList[i]'(by omega) = b[i]! := by have := gb i (by omega); rw [List.getElem?_eq_getElem (by omega)] at this; exact Option.some.inj this
    unfold cmpL
    rw [ea, eb, if_neg hne]
end Go.Dk
end
section
set_option linter.unusedVariables false
set_option linter.unusedSimpArgs false
namespace Go.Dk
open Go
section
variable {α : Type} {lt : α → α → Prop}
theorem pw_idx {X : List α} (h : X.Pairwise lt) {i j : Nat} {x y : α} (hij : i < j) (hx : X[i]? = some x) (hy : X[j]? = some y) : lt x y := by
  obtain ⟨h1, rfl⟩ := List.getElem?_eq_some_iff.1 hx
  obtain ⟨h2, rfl⟩ := List.getElem?_eq_some_iff.1 hy
  exact List.pairwise_iff_getElem.1 h i j h1 h2 hij
theorem cross (ht : ∀ a b c, lt a b → lt b c → lt a c) {X Y : List α} (hX : X.Pairwise lt) (hY : Y.Pairwise lt) {s e : Nat} (h : s = 0 ∨ Y.length ≤ e ∨ ∃ x y, X[s - 1]? = some x ∧ Y[e]? = some y ∧ lt x y) :
    ∀ a ∈ X.take s, ∀ b ∈ Y.drop e, lt a b := by
  intro a ha b hb
  rcases h with rfl | h | ⟨x, y, hx, hy, hxy⟩
  · simp at ha
  · rw [List.drop_eq_nil_of_le h] at hb; cases hb
  · obtain ⟨i, hi⟩ := List.getElem?_of_mem ha
    obtain ⟨j, hj⟩ := List.getElem?_of_mem hb
    rw [List.getElem?_take] at hi
    rw [List.getElem?_drop] at hj
    split at hi
    · rename_i his
      have h1 : a = x ∨ lt a x := by
        by_cases e1 : i = s - 1
        · rw [e1, hx] at hi; exact .inl (Option.some.inj hi).symm
        · exact .inr (pw_idx hX (by omega) hi hx)
      have h2 : y = b ∨ lt y b := by
        by_cases e1 : j = 0
        · rw [e1, Nat.add_zero, hy] at hj; exact .inl (Option.some.inj hj)
        · exact .inr (pw_idx hY (by omega) hy hj)
      have h3 : lt a y := by
        rcases h1 with rfl | h1
        · exact hxy
        · exact ht _ _ _ h1 hxy
      rcases h2 with rfl | h2
      · exact h3
      · exact ht _ _ _ h3 h2
    · cases hi
theorem take_drop_lt {X : List α} (h : X.Pairwise lt) (s : Nat) : ∀ a ∈ X.take s, ∀ b ∈ X.drop s, lt a b := by
  have := h
  rw [← List.take_append_drop s X, List.pairwise_append] at this
  exact this.2.2
theorem perm4 (A B C D : List α) : ((A ++ C) ++ (B ++ D)).Perm ((A ++ B) ++ (C ++ D)) := by
  rw [List.append_assoc, List.append_assoc]
  refine List.Perm.append_left A ?_
  rw [← List.append_assoc, ← List.append_assoc]
  exact List.Perm.append_right D List.perm_append_comm
theorem merge2 (ht : ∀ a b c, lt a b → lt b c → lt a c) {X Y Z1 Z2 : List α} (hX : X.Pairwise lt) (hY : Y.Pairwise lt) {s e : Nat} (h1 : s = 0 ∨ Y.length ≤ e ∨ ∃ x y, X[s - 1]? = some x ∧ Y[e]? = some y ∧ lt x y)
    (h2 : e = 0 ∨ X.length ≤ s ∨ ∃ y x, Y[e - 1]? = some y ∧ X[s]? = some x ∧ lt y x) (p1 : Z1.Perm (X.take s ++ Y.take e)) (p2 : Z2.Perm (X.drop s ++ Y.drop e)) (s1 : Z1.Pairwise lt) (s2 : Z2.Pairwise lt) : (Z1 ++ Z2).Pairwise lt ∧ (Z1 ++ Z2).Perm (X ++ Y) := by
  constructor
  · rw [List.pairwise_append]
    refine ⟨s1, s2, fun a ha b hb => ?_⟩
    rw [p1.mem_iff, List.mem_append] at ha
    rw [p2.mem_iff, List.mem_append] at hb
    rcases ha with ha | ha <;> rcases hb with hb | hb
    · exact take_drop_lt hX s a ha b hb
    · exact cross ht hX hY h1 a ha b hb
    · exact cross ht hY hX h2 a ha b hb
    · exact take_drop_lt hY e a ha b hb
  · refine (p1.append p2).trans ?_
    have := perm4 (X.take s) (X.drop s) (Y.take e) (Y.drop e)
    rw [List.take_append_drop, List.take_append_drop] at this
    exact this
theorem set_mid (P S : List α) (x y : α) : (P ++ x :: S).set P.length y = P ++ y :: S := by
  rw [List.set_append, if_neg (by omega), Nat.sub_self]; rfl
theorem get_mid (P S : List α) (x : α) : (P ++ x :: S)[P.length]? = some x := by simp
theorem sw_mid (P M S : List α) (x y : α) {i j : Nat} (hi : i = P.length) (hj : j = P.length + 1 + M.length) : ((P ++ x :: (M ++ y :: S)).set i y).set j x = P ++ y :: (M ++ x :: S) := by
  subst hi hj
  rw [set_mid]
  have e : P ++ y :: (M ++ y :: S) = (P ++ y :: M) ++ y :: S := by simp
  rw [e, show P.length + 1 + M.length = (P ++ y :: M).length by simp; omega, set_mid]
  simp
theorem sw_mid' (P M S : List α) (x y : α) {i j : Nat} (hi : i = P.length) (hj : j = P.length + 1 + M.length) : ((P ++ x :: (M ++ y :: S)).set j x).set i y = P ++ y :: (M ++ x :: S) := by
  rw [List.set_comm _ _ (by omega), sw_mid P M S x y hi hj]
theorem get_mid1 (P M S : List α) (x y : α) {i : Nat} (hi : i = P.length) : (P ++ x :: (M ++ y :: S))[i]? = some x := by subst hi; simp
theorem get_mid2 (P M S : List α) (x y : α) {j : Nat} (hj : j = P.length + 1 + M.length) : (P ++ x :: (M ++ y :: S))[j]? = some y := by
  subst hj
  have e : P ++ x :: (M ++ y :: S) = (P ++ x :: M) ++ y :: S := by simp
  rw [e, show P.length + 1 + M.length = (P ++ x :: M).length by simp; omega, get_mid]
theorem split_at {l : List α} {i : Nat} (h : i < l.length) : ∃ x, l[i]? = some x ∧ l = l.take i ++ x :: l.drop (i + 1) ∧ l.take (i + 1) = l.take i ++ [x] ∧ l.drop i = x :: l.drop (i + 1) := by
  refine ⟨l[i], List.getElem?_eq_getElem h, ?_, List.take_succ_eq_append_getElem h, List.drop_eq_getElem_cons h⟩
  rw [← List.drop_eq_getElem_cons h, List.take_append_drop]
inductive Chunks (lt : α → α → Prop) (s : Nat) : List α → Prop
  | last (l : List α) : l.length ≤ s → l.Pairwise lt → Chunks lt s l
  | cons (l r : List α) : l.length = s → l.Pairwise lt → Chunks lt s r → Chunks lt s (l ++ r)
theorem Chunks.uncons {s : Nat} {R : List α} (h : Chunks lt s R) (hl : s ≤ R.length) : ∃ l r, R = l ++ r ∧ l.length = s ∧ l.Pairwise lt ∧ Chunks lt s r := by
  cases h with
  | last l h1 h2 => exact ⟨R, [], by simp, by omega, h2, .last [] (by simp) List.Pairwise.nil⟩
  | cons l r h1 h2 h3 => exact ⟨l, r, rfl, h1, h2, h3⟩
theorem Chunks.one {s : Nat} {R : List α} (h : Chunks lt s R) (hl : R.length ≤ s) : R.Pairwise lt := by
  cases h with
  | last l h1 h2 => exact h2
  | cons l r h1 h2 h3 =>
    have : r = [] := List.eq_nil_of_length_eq_zero (by simp at hl; omega)
    subst this
    simpa using h2
end
/-! ### rows of fields -/
def rk : List Value → List UInt8
  | .string k :: _ => k.data.toList
  | _ => []
def Rw (r : List Value) : Prop := ∃ k c, r = .string k :: c ∧ c.length = 13 ∧ c.all (·.oneCell') = true
theorem Rw.len {r : List Value} (h : Rw r) : r.length = 14 := by obtain ⟨k, c, rfl, h, _⟩ := h; simp [h]
theorem Rw.one {r : List Value} (h : Rw r) : r.all (·.oneCell') = true := by obtain ⟨k, c, rfl, _, h⟩ := h; rw [List.all_cons, h]; rfl
def Lt (r s : List Value) : Prop := cmpL (rk r) (rk s) < 0
theorem Lt.trans (a b c : List Value) : Lt a b → Lt b c → Lt a c := cmpL_trans _ _ _
theorem Lt.of_not {r s : List Value} (h : rk r ≠ rk s) (hn : ¬ Lt r s) : Lt s r := by
  unfold Lt at *
  have h1 := cmpL_swap (rk r) (rk s)
  have h2 : cmpL (rk r) (rk s) ≠ 0 := fun e => h (cmpL_zero _ _ e)
  omega
def Df (rs : List (List Value)) : Prop := rs.Pairwise fun r s => rk r ≠ rk s
theorem Df.perm {rs rs' : List (List Value)} (h : Df rs) (hp : rs.Perm rs') : Df rs' := (List.Perm.pairwise_iff (fun h => Ne.symm h) hp).1 h
theorem Df.sub {rs rs' : List (List Value)} (h : Df rs) (hs : rs'.Sublist rs) : Df rs' := List.Pairwise.sublist hs h
theorem Df.lt {rs : List (List Value)} (h : Df rs) {i j : Nat} {x y : List Value} (hij : i ≠ j) (hx : rs[i]? = some x) (hy : rs[j]? = some y) (hn : ¬ Lt x y) : Lt y x := by
  refine Lt.of_not ?_ hn
  rcases Nat.lt_or_ge i j with h1 | h1
  · exact pw_idx h h1 hx hy
  · exact Ne.symm (pw_idx h (by omega : j < i) hy hx)
theorem flat_set14 : ∀ (rs : List (List Value)) (j : Nat) (l : List Value), (∀ r ∈ rs, Rw r) → j < rs.length → l.length = 14 → rs.flatten.take (j * 14) ++ l ++ rs.flatten.drop (j * 14 + l.length) = (rs.set j l).flatten
  | [], j, l, _, h, _ => by simp at h
  | x :: rs, 0, l, hr, h, hl => by
    have h1 := (hr x (by simp)).len
    rw [List.flatten_cons]
    simp only [Nat.zero_mul, Nat.zero_add, List.take_zero, List.nil_append, List.set_cons_zero, List.flatten_cons]
    rw [hl, ← h1, List.drop_left]
  | x :: rs, j + 1, l, hr, h, hl => by
    have h1 := (hr x (by simp)).len
    have ih := flat_set14 rs j l (fun r hr' => hr r (List.mem_cons_of_mem _ hr')) (by simpa using h) hl
    rw [List.set_cons_succ, List.flatten_cons, List.flatten_cons, ← ih, show (j + 1) * 14 = x.length + j * 14 by omega, show x.length + j * 14 + l.length = x.length + (j * 14 + l.length) by omega]
    rw [List.take_length_add_append, List.drop_length_add_append]
    simp [List.append_assoc]
theorem RowAt.el {w : World} {rs : List (List Value)} {g j : Nat} {r : List Value} (h : RowAt w g 0 rs.flatten) (hr : ∀ r ∈ rs, Rw r) (hj : rs[j]? = some r) : RowAt w g (0 + j * 14) r :=
  h.sub (j * 14) (flat_at rs j r (fun r h => (hr r h).len) hj)
theorem Rw.set {rs : List (List Value)} (h : ∀ r ∈ rs, Rw r) (j : Nat) {l : List Value} (hl : Rw l) : ∀ r ∈ rs.set j l, Rw r := fun r hr => by
  rcases List.mem_or_eq_of_mem_set hr with h1 | h1
  · exact h r h1
  · subst h1; exact hl
theorem Rw.perm {rs rs' : List (List Value)} (h : ∀ r ∈ rs, Rw r) (hp : rs.Perm rs') : ∀ r ∈ rs', Rw r := fun r hr => h r (hp.mem_iff.2 hr)
end Go.Dk
end
section
set_option linter.unusedVariables false
namespace Go.Dk
open Go Go.RowKit
def Cq (w0 w : World) (L : List (Nat × Obj)) (R : List Row) (w' : World) : Prop := Cxr w0 w' L R ∧ Below w.heap.size w w'
section
variable {P : Program} {ops : Array Oper} {Q : Exit → Act → World → Prop} {K : Act → Prop} {rest : List Oper} {o : Oper} {n : Nat} {f : Nat → Value} {w w0 : World} {L : List (Nat × Obj)} {R : List Row}
theorem w_quiet {id : Nat} {l : List Oper} (cx : Cxr w0 w L R) (hm : P.follows .mixedOrders = true) (hB : Region.lexB .any l.toArray = true)
    (h : wpQuiet P l.toArray (Cq w0 w L R) (fun a' => ∀ w', Cq w0 w L R w' → Q .normal a' w') l (St n f)) : (Code.region id l.toArray true).wp P Q (St n f) w :=
  wp_region_quiet (C := Cq w0 w L R) hm hB ⟨cx.draw, ⟨rfl, rfl, rfl, Nat.le_refl _, fun _ _ => rfl⟩⟩ (by simpa using h)
theorem q_val {v : Value} {d : Nat} (hg : o.guard = none) (hd : o.dst = some d) (hv : ∀ w', Cxr w0 w' L R → Below w.heap.size w w' → (execOp (ev n f) o).run P w' = .ok (.value v) w')
    (h : wpQuiet P ops (Cq w0 w L R) K rest (St n (upd f d v))) : wpQuiet P ops (Cq w0 w L R) K (o :: rest) (St n f) := by
  refine wpQuiet_step fun K' hK => ?_
  have hw : Region.wanted o (yielded ops (St n f).tmps) = true := by simp [Region.wanted, hg]
  rw [hw]
  refine ⟨v, fun w' hc => ?_, hK _ (by rw [hd, put_St]; exact h)⟩
  unfold Oper.quietAt
  rw [eval_St, hv w' hc.1 hc.2]
  exact ⟨rfl, rfl⟩
theorem q_gval {v : Value} {j d dj : Nat} {pol c : Bool} (hg : o.guard = some (j, pol)) (hd : o.dst = some d) (hj : (ops[j]?).bind (·.dst) = some dj) (hc : WantB (ev n f (.tmp dj)) pol c)
    (hv : c = true → ∀ w', Cxr w0 w' L R → Below w.heap.size w w' → (execOp (ev n f) o).run P w' = .ok (.value v) w') (h : wpQuiet P ops (Cq w0 w L R) K rest (St n (upd f d (gv c v)))) : wpQuiet P ops (Cq w0 w L R) K (o :: rest) (St n f) := by
  have hw := wanted_St (o := o) (ops := ops) hg hj hc
  refine wpQuiet_step fun K' hK => ?_
  rw [hw]
  cases c with
  | true =>
    simp only [if_true]
    refine ⟨v, fun w' hc => ?_, hK _ (by rw [hd, put_St]; unfold gv at h; exact h)⟩
    unfold Oper.quietAt
    rw [eval_St, hv rfl w' hc.1 hc.2]
    exact ⟨rfl, rfl⟩
  | false =>
    simp only [Bool.false_eq_true, if_false]
    refine hK _ ?_
    rw [hd, put_St]
    unfold gv at h
    exact h
theorem q_nil (h : K (St n f)) : wpQuiet P ops (Cq w0 w L R) K [] (St n f) := h
def Runs (P : Program) (ρ : Operand → Value) (o : Oper) (k : Nat) (args : List Value) : Prop := ∀ w, (execOp ρ o).run P w = .ok (.enter k args.toArray) w
theorem runs_fn {k : Nat} {opd : Array Operand} {ats : Array TypeId} {fn : Func} {args : List Value} (hf : P.funcs[k]? = some fn) (hb : fn.body.isNone = false) (hn : (fn.name == "runtime.NumGoroutine") = false)
    (ho : o.op = .call { callee := .value (.func k), args := opd, argTypes := ats }) (hargs : opd.toList.map (ev n f) = args) : Runs P (ev n f) o k args := fun w => run_callOp hf hb hn ho hargs
theorem runs_fnv {k : Nat} {x : Operand} {opd : Array Operand} {ats : Array TypeId} {fn : Func} {args cap : List Value} (hf : P.funcs[k]? = some fn) (hb : fn.body.isNone = false) (hn : (fn.name == "runtime.NumGoroutine") = false)
    (ho : o.op = .call { callee := .value x, args := opd, argTypes := ats }) (hx : ev n f x = .func (.func k) #[] cap.toArray) (hargs : opd.toList.map (ev n f) = args) : Runs P (ev n f) o k (args ++ cap) := fun w => by
  have h1 : fn.name ≠ "runtime.NumGoroutine" := by simpa using hn
  have h2 : ¬ fn.body = none := by intro e; simp [e] at hb
  unfold execOp; rw [ho]
  have e : opd.map (ev n f) = args.toArray := by rw [← hargs]; apply Array.ext'; simp
  simp [resolve, e, hx, Deferred.ofValue, invoke, callFunc, hf, h1, h2]
theorem runs_fnv0 {k : Nat} {x : Operand} {opd : Array Operand} {ats : Array TypeId} {fn : Func} {args : List Value} (hf : P.funcs[k]? = some fn) (hb : fn.body.isNone = false) (hn : (fn.name == "runtime.NumGoroutine") = false)
    (ho : o.op = .call { callee := .value x, args := opd, argTypes := ats }) (hx : ev n f x = .func (.func k) #[] #[]) (hargs : opd.toList.map (ev n f) = args) : Runs P (ev n f) o k args := by
  have := runs_fnv (cap := []) hf hb hn ho hx hargs
  rwa [List.append_nil] at this
theorem q_call {d k : Nat} {args : List Value} {v : Value} (hg : o.guard = none) (hd : o.dst = some d) (hr : Runs P (ev n f) o k args) (hc : ∀ w', Cxr w0 w' L R → Below w.heap.size w w' → Fc P k args w' (fun u _ => u = v))
    (h : wpQuiet P ops (Cq w0 w L R) K rest (St n (upd f d v))) : wpQuiet P ops (Cq w0 w L R) K (o :: rest) (St n f) := by
  refine wpQuiet_step fun K' hK => ?_
  have hw : Region.wanted o (yielded ops (St n f).tmps) = true := by simp [Region.wanted, hg]
  rw [hw]
  refine ⟨v, fun w' hcx => ?_, hK _ (by rw [hd, put_St]; exact h)⟩
  unfold Oper.quietAt
  rw [eval_St, hr w']
  refine ⟨rfl, Calls.mono (hc w' hcx.1 hcx.2) ?_⟩
  rintro e w'' ⟨u, rfl, hb, rfl⟩
  exact ⟨rfl, hcx.1.call hb, hcx.2.trans (hb.mono hcx.2.size)⟩
theorem q_gcall {d j dj k : Nat} {pol c : Bool} {args : List Value} {v : Value} (hg : o.guard = some (j, pol)) (hd : o.dst = some d) (hj : (ops[j]?).bind (·.dst) = some dj) (hw : WantB (ev n f (.tmp dj)) pol c) (hr : c = true → Runs P (ev n f) o k args)
    (hc : c = true → ∀ w', Cxr w0 w' L R → Below w.heap.size w w' → Fc P k args w' (fun u _ => u = v))
    (h : wpQuiet P ops (Cq w0 w L R) K rest (St n (upd f d (gv c v)))) : wpQuiet P ops (Cq w0 w L R) K (o :: rest) (St n f) := by
  have hw := wanted_St (o := o) (ops := ops) hg hj hw
  refine wpQuiet_step fun K' hK => ?_
  rw [hw]
  cases c with
  | true =>
    simp only [if_true]
    refine ⟨v, fun w' hcx => ?_, hK _ (by rw [hd, put_St]; unfold gv at h; exact h)⟩
    unfold Oper.quietAt
    rw [eval_St, hr rfl w']
    refine ⟨rfl, Calls.mono (hc rfl w' hcx.1 hcx.2) ?_⟩
    rintro e w'' ⟨u, rfl, hb, rfl⟩
    exact ⟨rfl, hcx.1.call hb, hcx.2.trans (hb.mono hcx.2.size)⟩
  | false =>
    simp only [Bool.false_eq_true, if_false]
    refine hK _ ?_
    rw [hd, put_St]
    unfold gv at h
    exact h
theorem s_callR {d k : Nat} {args : List Value} {T : Value → World → Prop} (hg : o.guard = none) (hd : o.dst = some d) (hr : Runs P (ev n f) o k args) (hc : Ret P k args w T)
    (h : ∀ v w', T v w' → wpList P ops Q rest (St n (upd f d v)) w') : wpList P ops Q (o :: rest) (St n f) w := by
  refine wpList_plain hg fun K hK => ?_
  unfold Oper.wp
  rw [eval_St, hr w]
  refine Calls.mono hc ?_
  rintro e w' ⟨v, rfl, hv⟩
  show K ((St n f).put o.dst v) w'
  refine hK _ _ ?_
  rw [hd, put_St]
  exact h v w' hv
theorem ret_no {fn : Func} {T : Value → World → Prop} {e : Exit} (he : e = .ret ∨ e = .normal) (hr : fn.results = #[]) (h : T (.tuple #[]) w) : bodyPost P fn (fun e w' => ∃ v, e = .returned v ∧ T v w') e (St n f) w := by
  rcases he with rfl | rfl <;> exact ⟨rfl, _, results_none hr _ _ _, _, rfl, h⟩
theorem v_makeFunc1 {ρ : Operand → Value} {k : Nat} {x : Operand} {v : Value} (ho : o.op = .makeFunc (.func k) #[] #[x]) (hx : ρ x = v) : (execOp ρ o).run P w = .ok (.value (.func (.func k) #[] #[v])) w := by
  unfold execOp; rw [ho]; simp [Instr.makeFunc, hx]
theorem v_makeFunc2 {ρ : Operand → Value} {k : Nat} {x y : Operand} {v u : Value} (ho : o.op = .makeFunc (.func k) #[] #[x, y]) (hx : ρ x = v) (hy : ρ y = u) : (execOp ρ o).run P w = .ok (.value (.func (.func k) #[] #[v, u])) w := by
  unfold execOp; rw [ho]; simp [Instr.makeFunc, hx, hy]
theorem s_storeEl {t : TypeId} {x y : Operand} {k cap g j : Nat} {rs : List (List Value)} {l : List Value} (cx : Cxr w0 w L (⟨77, 14, .slice (some ⟨g, 0, none⟩) k cap, k, rs.flatten⟩ :: R)) (hg : o.guard = none) (hd : o.dst = none) (ho : o.op = .store t x y) (hx : ev n f x = .pointer (some ⟨g, 0 + j * 14, none⟩)) (hy : ev n f y = .agg l.toArray)
    (hs : (P.info? t).map (·.size) = some 14) (hrs : ∀ r ∈ rs, Rw r) (hk : rs.length = k) (hj : j < rs.length) (hl : Rw l)
    (h : ∀ w', Cxr w0 w' L (⟨77, 14, .slice (some ⟨g, 0, none⟩) k cap, k, (rs.set j l).flatten⟩ :: R) → wpList P ops Q rest (St n f) w') : wpList P ops Q (o :: rest) (St n f) w := by
  refine s_storeRow cx hg hd ho hx hy (by rw [hl.len]; exact hs) (by rw [hl.len]; omega) hl.one fun w' cx' _ _ => ?_
  rw [Nat.zero_add, flat_set14 rs j l hrs hj hl.len] at cx'
  exact h w' cx'
theorem Cxr.el {k j : Nat} {v : Value} {rs : List (List Value)} {r : List Value} (cx : Cxr w0 w L (⟨77, 14, v, k, rs.flatten⟩ :: R)) (hrs : ∀ r ∈ rs, Rw r) (hk : rs.length = k) (hj : rs[j]? = some r) : ∃ g c, v = .slice (some ⟨g, 0, none⟩) k c := by
  obtain ⟨a, c, rfl, h⟩ := cx.ownRow
  obtain ⟨g, rfl, _⟩ := h (by have := (List.getElem?_eq_some_iff.1 hj).1; omega)
  exact ⟨g, c, rfl⟩
theorem Cxr.elAt {k j g c : Nat} {rs : List (List Value)} {r : List Value} (cx : Cxr w0 w L (⟨77, 14, .slice (some ⟨g, 0, none⟩) k c, k, rs.flatten⟩ :: R)) (hrs : ∀ r ∈ rs, Rw r) (hk : rs.length = k) (hj : rs[j]? = some r) : RowAt w g (0 + j * 14) r := by
  obtain ⟨a, c', e, h⟩ := cx.ownRow
  obtain ⟨g', rfl, hr⟩ := h (by have := (List.getElem?_eq_some_iff.1 hj).1; omega)
  simp only [Value.slice.injEq, Option.some.injEq, Addr.mk.injEq, and_true, true_and] at e
  obtain ⟨rfl, _⟩ := e
  exact hr.el hrs hj
end
end Go.Dk
end
