/-
  Regions that draw their order, read, and call what leaves all that there was: one walk in the order of the text.
-/
import Derived.Test.YtmkihcdcgkdilaaSq
import Derived.Deep.Quiet
set_option linter.unusedVariables false
namespace Go.Dk
open Go Go.RowKit
/-- the worlds that may follow -/
def Cq (w0 w : World) (L : List (Nat × Obj)) (R : List Row) (w' : World) : Prop := Cxr w0 w' L R ∧ Below w.heap.size w w'
section
variable {P : Program} {ops : Array Oper} {Q : Exit → Act → World → Prop} {K : Act → Prop} {rest : List Oper} {o : Oper} {n : Nat} {f : Nat → Value} {w w0 : World} {L : List (Nat × Obj)} {R : List Row}
theorem w_quiet {id : Nat} {l : List Oper} (cx : Cxr w0 w L R) (hm : P.follows .mixedOrders = true) (hB : Region.lexB .any l.toArray = true)
    (h : wpQuiet P l.toArray (Cq w0 w L R) (fun a' => ∀ w', Cq w0 w L R w' → Q .normal a' w') l (St n f)) : (Code.region id l.toArray true).wp P Q (St n f) w :=
  wp_region_quiet (C := Cq w0 w L R) hm hB ⟨cx.draw, ⟨rfl, rfl, rfl, Nat.le_refl _, fun _ _ => rfl⟩⟩ (by simpa using h)
theorem q_val {v : Value} {d : Nat} (hg : o.guard = none) (hd : o.dst = some d) (hv : ∀ w', Cxr w0 w' L R → Below w.heap.size w w' → (execOp (ev n f) o).run P w' = .ok (.value v) w')
    (h : wpQuiet P ops (Cq w0 w L R) K rest (St n (upd f d v))) : wpQuiet P ops (Cq w0 w L R) K (o :: rest) (St n f) := by
  refine wpQuiet_step fun K' hK => ?_
  have hw : Region.wanted o (yielded ops (St n f).tmps) = true := by simp [Region.wanted, hg]
  rw [hw]
  refine ⟨v, fun w' hc => ?_, hK _ (by rw [hd, put_St]; exact h)⟩
  unfold Oper.quietAt
  rw [eval_St, hv w' hc.1 hc.2]
  exact ⟨rfl, rfl⟩
theorem q_gval {v : Value} {j d dj : Nat} {pol c : Bool} (hg : o.guard = some (j, pol)) (hd : o.dst = some d) (hj : (ops[j]?).bind (·.dst) = some dj) (hc : WantB (ev n f (.tmp dj)) pol c)
    (hv : c = true → ∀ w', Cxr w0 w' L R → Below w.heap.size w w' → (execOp (ev n f) o).run P w' = .ok (.value v) w') (h : wpQuiet P ops (Cq w0 w L R) K rest (St n (upd f d (gv c v)))) : wpQuiet P ops (Cq w0 w L R) K (o :: rest) (St n f) := by
  have hw := wanted_St (o := o) (ops := ops) hg hj hc
  refine wpQuiet_step fun K' hK => ?_
  rw [hw]
  cases c with
  | true =>
    simp only [if_true]
    refine ⟨v, fun w' hc => ?_, hK _ (by rw [hd, put_St]; unfold gv at h; exact h)⟩
    unfold Oper.quietAt
    rw [eval_St, hv rfl w' hc.1 hc.2]
    exact ⟨rfl, rfl⟩
  | false =>
    simp only [Bool.false_eq_true, if_false]
    refine hK _ ?_
    rw [hd, put_St]
    unfold gv at h
    exact h
theorem q_nil (h : K (St n f)) : wpQuiet P ops (Cq w0 w L R) K [] (St n f) := h
/-- a call of a function value, or of a function: the run of the call's own operation -/
def Runs (P : Program) (ρ : Operand → Value) (o : Oper) (k : Nat) (args : List Value) : Prop := ∀ w, (execOp ρ o).run P w = .ok (.enter k args.toArray) w
theorem runs_fn {k : Nat} {opd : Array Operand} {ats : Array TypeId} {fn : Func} {args : List Value} (hf : P.funcs[k]? = some fn) (hb : fn.body.isNone = false) (hn : (fn.name == "runtime.NumGoroutine") = false)
    (ho : o.op = .call { callee := .value (.func k), args := opd, argTypes := ats }) (hargs : opd.toList.map (ev n f) = args) : Runs P (ev n f) o k args := fun w => run_callOp hf hb hn ho hargs
theorem runs_fnv {k : Nat} {x : Operand} {opd : Array Operand} {ats : Array TypeId} {fn : Func} {args cap : List Value} (hf : P.funcs[k]? = some fn) (hb : fn.body.isNone = false) (hn : (fn.name == "runtime.NumGoroutine") = false)
    (ho : o.op = .call { callee := .value x, args := opd, argTypes := ats }) (hx : ev n f x = .func (.func k) #[] cap.toArray) (hargs : opd.toList.map (ev n f) = args) : Runs P (ev n f) o k (args ++ cap) := fun w => by
  have h1 : fn.name ≠ "runtime.NumGoroutine" := by simpa using hn
  have h2 : ¬ fn.body = none := by intro e; simp [e] at hb
  unfold execOp; rw [ho]
  have e : opd.map (ev n f) = args.toArray := by rw [← hargs]; apply Array.ext'; simp
  simp [resolve, e, hx, Deferred.ofValue, invoke, callFunc, hf, h1, h2]
theorem runs_fnv0 {k : Nat} {x : Operand} {opd : Array Operand} {ats : Array TypeId} {fn : Func} {args : List Value} (hf : P.funcs[k]? = some fn) (hb : fn.body.isNone = false) (hn : (fn.name == "runtime.NumGoroutine") = false)
    (ho : o.op = .call { callee := .value x, args := opd, argTypes := ats }) (hx : ev n f x = .func (.func k) #[] #[]) (hargs : opd.toList.map (ev n f) = args) : Runs P (ev n f) o k args := by
  have := runs_fnv (cap := []) hf hb hn ho hx hargs
  rwa [List.append_nil] at this
theorem q_call {d k : Nat} {args : List Value} {v : Value} (hg : o.guard = none) (hd : o.dst = some d) (hr : Runs P (ev n f) o k args) (hc : ∀ w', Cxr w0 w' L R → Below w.heap.size w w' → Fc P k args w' (fun u _ => u = v))
    (h : wpQuiet P ops (Cq w0 w L R) K rest (St n (upd f d v))) : wpQuiet P ops (Cq w0 w L R) K (o :: rest) (St n f) := by
  refine wpQuiet_step fun K' hK => ?_
  have hw : Region.wanted o (yielded ops (St n f).tmps) = true := by simp [Region.wanted, hg]
  rw [hw]
  refine ⟨v, fun w' hcx => ?_, hK _ (by rw [hd, put_St]; exact h)⟩
  unfold Oper.quietAt
  rw [eval_St, hr w']
  refine ⟨rfl, Calls.mono (hc w' hcx.1 hcx.2) ?_⟩
  rintro e w'' ⟨u, rfl, hb, rfl⟩
  exact ⟨rfl, hcx.1.call hb, hcx.2.trans (hb.mono hcx.2.size)⟩
theorem q_gcall {d j dj k : Nat} {pol c : Bool} {args : List Value} {v : Value} (hg : o.guard = some (j, pol)) (hd : o.dst = some d) (hj : (ops[j]?).bind (·.dst) = some dj) (hw : WantB (ev n f (.tmp dj)) pol c) (hr : c = true → Runs P (ev n f) o k args)
    (hc : c = true → ∀ w', Cxr w0 w' L R → Below w.heap.size w w' → Fc P k args w' (fun u _ => u = v))
    (h : wpQuiet P ops (Cq w0 w L R) K rest (St n (upd f d (gv c v)))) : wpQuiet P ops (Cq w0 w L R) K (o :: rest) (St n f) := by
  have hw := wanted_St (o := o) (ops := ops) hg hj hw
  refine wpQuiet_step fun K' hK => ?_
  rw [hw]
  cases c with
  | true =>
    simp only [if_true]
    refine ⟨v, fun w' hcx => ?_, hK _ (by rw [hd, put_St]; unfold gv at h; exact h)⟩
    unfold Oper.quietAt
    rw [eval_St, hr rfl w']
    refine ⟨rfl, Calls.mono (hc rfl w' hcx.1 hcx.2) ?_⟩
    rintro e w'' ⟨u, rfl, hb, rfl⟩
    exact ⟨rfl, hcx.1.call hb, hcx.2.trans (hb.mono hcx.2.size)⟩
  | false =>
    simp only [Bool.false_eq_true, if_false]
    refine hK _ ?_
    rw [hd, put_St]
    unfold gv at h
    exact h
/-- a call by a contract, whatever it does -/
theorem s_callR {d k : Nat} {args : List Value} {T : Value → World → Prop} (hg : o.guard = none) (hd : o.dst = some d) (hr : Runs P (ev n f) o k args) (hc : Ret P k args w T)
    (h : ∀ v w', T v w' → wpList P ops Q rest (St n (upd f d v)) w') : wpList P ops Q (o :: rest) (St n f) w := by
  refine wpList_plain hg fun K hK => ?_
  unfold Oper.wp
  rw [eval_St, hr w]
  refine Calls.mono hc ?_
  rintro e w' ⟨v, rfl, hv⟩
  show K ((St n f).put o.dst v) w'
  refine hK _ _ ?_
  rw [hd, put_St]
  exact h v w' hv
theorem s_callN {k : Nat} {args : List Value} {T : Value → World → Prop} (hg : o.guard = none) (hd : o.dst = none) (hr : Runs P (ev n f) o k args) (hc : Ret P k args w T)
    (h : ∀ v w', T v w' → wpList P ops Q rest (St n f) w') : wpList P ops Q (o :: rest) (St n f) w := by
  refine wpList_plain hg fun K hK => ?_
  unfold Oper.wp
  rw [eval_St, hr w]
  refine Calls.mono hc ?_
  rintro e w' ⟨v, rfl, hv⟩
  show K ((St n f).put o.dst v) w'
  refine hK _ _ ?_
  rw [hd]
  exact h v w' hv
/-- the end of a body without results -/
theorem ret_no {fn : Func} {T : Value → World → Prop} {e : Exit} (he : e = .ret ∨ e = .normal) (hr : fn.results = #[]) (h : T (.tuple #[]) w) : bodyPost P fn (fun e w' => ∃ v, e = .returned v ∧ T v w') e (St n f) w := by
  rcases he with rfl | rfl <;> exact ⟨rfl, _, results_none hr _ _ _, _, rfl, h⟩
theorem v_makeFunc0 {ρ : Operand → Value} {k : Nat} (ho : o.op = .makeFunc (.func k) #[] #[]) : (execOp ρ o).run P w = .ok (.value (.func (.func k) #[] #[])) w := by
  unfold execOp; rw [ho]; simp [Instr.makeFunc]
theorem v_makeFunc1 {ρ : Operand → Value} {k : Nat} {x : Operand} {v : Value} (ho : o.op = .makeFunc (.func k) #[] #[x]) (hx : ρ x = v) : (execOp ρ o).run P w = .ok (.value (.func (.func k) #[] #[v])) w := by
  unfold execOp; rw [ho]; simp [Instr.makeFunc, hx]
theorem v_makeFunc2 {ρ : Operand → Value} {k : Nat} {x y : Operand} {v u : Value} (ho : o.op = .makeFunc (.func k) #[] #[x, y]) (hx : ρ x = v) (hy : ρ y = u) : (execOp ρ o).run P w = .ok (.value (.func (.func k) #[] #[v, u])) w := by
  unfold execOp; rw [ho]; simp [Instr.makeFunc, hx, hy]
/-- an element of a slice of the call's own is written -/
theorem s_storeEl {t : TypeId} {x y : Operand} {k cap g j : Nat} {rs : List (List Value)} {l : List Value} (cx : Cxr w0 w L (⟨77, 14, .slice (some ⟨g, 0, none⟩) k cap, k, rs.flatten⟩ :: R)) (hg : o.guard = none) (hd : o.dst = none) (ho : o.op = .store t x y) (hx : ev n f x = .pointer (some ⟨g, 0 + j * 14, none⟩)) (hy : ev n f y = .agg l.toArray)
    (hs : (P.info? t).map (·.size) = some 14) (hrs : ∀ r ∈ rs, Rw r) (hk : rs.length = k) (hj : j < rs.length) (hl : Rw l)
    (h : ∀ w', Cxr w0 w' L (⟨77, 14, .slice (some ⟨g, 0, none⟩) k cap, k, (rs.set j l).flatten⟩ :: R) → wpList P ops Q rest (St n f) w') : wpList P ops Q (o :: rest) (St n f) w := by
  refine s_storeRow cx hg hd ho hx hy (by rw [hl.len]; exact hs) (by rw [hl.len]; omega) hl.one fun w' cx' _ _ => ?_
  rw [Nat.zero_add, flat_set14 rs j l hrs hj hl.len] at cx'
  exact h w' cx'
/-- an element of a slice of the call's own is read -/
theorem Cxr.el {k j : Nat} {v : Value} {rs : List (List Value)} {r : List Value} (cx : Cxr w0 w L (⟨77, 14, v, k, rs.flatten⟩ :: R)) (hrs : ∀ r ∈ rs, Rw r) (hk : rs.length = k) (hj : rs[j]? = some r) : ∃ g c, v = .slice (some ⟨g, 0, none⟩) k c := by
  obtain ⟨a, c, rfl, h⟩ := cx.ownRow
  obtain ⟨g, rfl, _⟩ := h (by have := (List.getElem?_eq_some_iff.1 hj).1; omega)
  exact ⟨g, c, rfl⟩
theorem Cxr.elAt {k j g c : Nat} {rs : List (List Value)} {r : List Value} (cx : Cxr w0 w L (⟨77, 14, .slice (some ⟨g, 0, none⟩) k c, k, rs.flatten⟩ :: R)) (hrs : ∀ r ∈ rs, Rw r) (hk : rs.length = k) (hj : rs[j]? = some r) : RowAt w g (0 + j * 14) r := by
  obtain ⟨a, c', e, h⟩ := cx.ownRow
  obtain ⟨g', rfl, hr⟩ := h (by have := (List.getElem?_eq_some_iff.1 hj).1; omega)
  simp only [Value.slice.injEq, Option.some.injEq, Addr.mk.injEq, and_true, true_and] at e
  obtain ⟨rfl, _⟩ := e
  exact hr.el hrs hj
end
end Go.Dk
