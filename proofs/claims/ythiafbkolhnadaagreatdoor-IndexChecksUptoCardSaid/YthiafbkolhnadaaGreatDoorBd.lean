/-
  Regions that draw their order and only read, or call what leaves all that there was.
-/
import Derived.Test.YthiafbkolhnadaaGreatDoorBc
import Derived.Still
import Derived.Deep.Quiet
set_option linter.unusedVariables false
namespace Go.Dk
open Go Go.RowKit
section
variable {P : Program} {ops : Array Oper} {Q : Act → Prop} {rest : List Oper} {o : Oper} {n : Nat} {f : Nat → Value} {w w0 : World} {L : List (Nat × Obj)} {R : List Row}
theorem t_val {v : Value} {d : Nat} (hg : o.guard = none) (hd : o.dst = some d) (hv : (execOp (ev n f) o).run P w = .ok (.value v) w) (h : wpStill P ops w Q rest (St n (upd f d v))) : wpStill P ops w Q (o :: rest) (St n f) := by
  unfold wpStill
  rw [if_pos (by simp [Region.wanted, hg])]
  unfold Oper.still
  rw [eval_St, hv, Oper.stillUpon_value, hd, put_St]
  exact h
theorem t_gval {v : Value} {j d dj : Nat} {pol c : Bool} (hg : o.guard = some (j, pol)) (hd : o.dst = some d) (hj : (ops[j]?).bind (·.dst) = some dj) (hc : WantB (ev n f (.tmp dj)) pol c)
    (hv : c = true → (execOp (ev n f) o).run P w = .ok (.value v) w) (h : wpStill P ops w Q rest (St n (upd f d (gv c v)))) : wpStill P ops w Q (o :: rest) (St n f) := by
  have hw := wanted_St (o := o) (ops := ops) hg hj hc
  unfold wpStill
  rw [hw]
  cases c with
  | true =>
    rw [if_pos rfl]
    unfold Oper.still
    rw [eval_St, hv rfl, Oper.stillUpon_value, hd, put_St]
    unfold gv at h
    exact h
  | false =>
    rw [if_neg (by simp), hd, put_St]
    unfold gv at h
    exact h
theorem t_nil (h : Q (St n f)) : wpStill P ops w Q [] (St n f) := h
theorem w_still {id : Nat} {Q : Exit → Act → World → Prop} {l : List Oper} (cx : Cxr w0 w L R) (hm : P.follows .mixedOrders = true) (hB : Region.lexB .any l.toArray = true)
    (h : ∀ w', Cxr w0 w' L R → Below w.heap.size w w' → wpStill P l.toArray w' (fun a' => Q .normal a' w') l (St n f)) : (Code.region id l.toArray true).wp P Q (St n f) w :=
  wp_region_still_lit hm hB (h w.drew cx.draw ⟨rfl, rfl, rfl, Nat.le_refl _, fun _ _ => rfl⟩)
end
/-- the worlds that may follow -/
def Cq (w0 w : World) (L : List (Nat × Obj)) (R : List Row) (w' : World) : Prop := Cxr w0 w' L R ∧ Below w.heap.size w w'
section
variable {P : Program} {ops : Array Oper} {Q : Exit → Act → World → Prop} {K : Act → Prop} {rest : List Oper} {o : Oper} {n : Nat} {f : Nat → Value} {w w0 : World} {L : List (Nat × Obj)} {R : List Row}
theorem w_quiet {id : Nat} {l : List Oper} (cx : Cxr w0 w L R) (hm : P.follows .mixedOrders = true) (hB : Region.lexB .any l.toArray = true)
    (h : wpQuiet P l.toArray (Cq w0 w L R) (fun a' => ∀ w', Cq w0 w L R w' → Q .normal a' w') l (St n f)) : (Code.region id l.toArray true).wp P Q (St n f) w :=
  wp_region_quiet (C := Cq w0 w L R) hm hB ⟨cx.draw, ⟨rfl, rfl, rfl, Nat.le_refl _, fun _ _ => rfl⟩⟩ (by simpa using h)
theorem q_val {v : Value} {d : Nat} (hg : o.guard = none) (hd : o.dst = some d) (hv : ∀ w', Cxr w0 w' L R → Below w.heap.size w w' → (execOp (ev n f) o).run P w' = .ok (.value v) w')
    (h : wpQuiet P ops (Cq w0 w L R) K rest (St n (upd f d v))) : wpQuiet P ops (Cq w0 w L R) K (o :: rest) (St n f) := by
  refine wpQuiet_step fun K' hK => ?_
  have hw : Region.wanted o (yielded ops (St n f).tmps) = true := by simp [Region.wanted, hg]
  rw [hw]
  refine ⟨v, fun w' hc => ?_, hK _ (by rw [hd, put_St]; exact h)⟩
  unfold Oper.quietAt
  rw [eval_St, hv w' hc.1 hc.2]
  exact ⟨rfl, rfl⟩
theorem q_gval {v : Value} {j d dj : Nat} {pol c : Bool} (hg : o.guard = some (j, pol)) (hd : o.dst = some d) (hj : (ops[j]?).bind (·.dst) = some dj) (hc : WantB (ev n f (.tmp dj)) pol c)
    (hv : c = true → ∀ w', Cxr w0 w' L R → Below w.heap.size w w' → (execOp (ev n f) o).run P w' = .ok (.value v) w') (h : wpQuiet P ops (Cq w0 w L R) K rest (St n (upd f d (gv c v)))) : wpQuiet P ops (Cq w0 w L R) K (o :: rest) (St n f) := by
  have hw := wanted_St (o := o) (ops := ops) hg hj hc
  refine wpQuiet_step fun K' hK => ?_
  rw [hw]
  cases c with
  | true =>
    simp only [if_true]
    refine ⟨v, fun w' hc => ?_, hK _ (by rw [hd, put_St]; unfold gv at h; exact h)⟩
    unfold Oper.quietAt
    rw [eval_St, hv rfl w' hc.1 hc.2]
    exact ⟨rfl, rfl⟩
  | false =>
    simp only [Bool.false_eq_true, if_false]
    refine hK _ ?_
    rw [hd, put_St]
    unfold gv at h
    exact h
theorem q_nil (h : K (St n f)) : wpQuiet P ops (Cq w0 w L R) K [] (St n f) := h
/-- a call of a function value, or of a function: the run of the call's own operation -/
def Runs (P : Program) (ρ : Operand → Value) (o : Oper) (k : Nat) (args : List Value) : Prop := ∀ w, (execOp ρ o).run P w = .ok (.enter k args.toArray) w
theorem runs_fn {k : Nat} {opd : Array Operand} {ats : Array TypeId} {fn : Func} {args : List Value} (hf : P.funcs[k]? = some fn) (hb : fn.body.isNone = false) (hn : (fn.name == "runtime.NumGoroutine") = false)
    (ho : o.op = .call { callee := .value (.func k), args := opd, argTypes := ats }) (hargs : opd.toList.map (ev n f) = args) : Runs P (ev n f) o k args := fun w => run_callOp hf hb hn ho hargs
theorem runs_fnv {k : Nat} {x : Operand} {opd : Array Operand} {ats : Array TypeId} {fn : Func} {args cap : List Value} (hf : P.funcs[k]? = some fn) (hb : fn.body.isNone = false) (hn : (fn.name == "runtime.NumGoroutine") = false)
    (ho : o.op = .call { callee := .value x, args := opd, argTypes := ats }) (hx : ev n f x = .func (.func k) #[] cap.toArray) (hargs : opd.toList.map (ev n f) = args) : Runs P (ev n f) o k (args ++ cap) := fun w => by
  have h1 : fn.name ≠ "runtime.NumGoroutine" := by simpa using hn
  have h2 : ¬ fn.body = none := by intro e; simp [e] at hb
  unfold execOp; rw [ho]
  have e : opd.map (ev n f) = args.toArray := by rw [← hargs]; apply Array.ext'; simp
  simp [resolve, e, hx, Deferred.ofValue, invoke, callFunc, hf, h1, h2]
theorem runs_fnv0 {k : Nat} {x : Operand} {opd : Array Operand} {ats : Array TypeId} {fn : Func} {args : List Value} (hf : P.funcs[k]? = some fn) (hb : fn.body.isNone = false) (hn : (fn.name == "runtime.NumGoroutine") = false)
    (ho : o.op = .call { callee := .value x, args := opd, argTypes := ats }) (hx : ev n f x = .func (.func k) #[] #[]) (hargs : opd.toList.map (ev n f) = args) : Runs P (ev n f) o k args := by
  have := runs_fnv (cap := []) hf hb hn ho hx hargs
  rwa [List.append_nil] at this
theorem q_call {d k : Nat} {args : List Value} {v : Value} (hg : o.guard = none) (hd : o.dst = some d) (hr : Runs P (ev n f) o k args) (hc : ∀ w', Cxr w0 w' L R → Below w.heap.size w w' → Fc P k args w' (fun u _ => u = v))
    (h : wpQuiet P ops (Cq w0 w L R) K rest (St n (upd f d v))) : wpQuiet P ops (Cq w0 w L R) K (o :: rest) (St n f) := by
  refine wpQuiet_step fun K' hK => ?_
  have hw : Region.wanted o (yielded ops (St n f).tmps) = true := by simp [Region.wanted, hg]
  rw [hw]
  refine ⟨v, fun w' hcx => ?_, hK _ (by rw [hd, put_St]; exact h)⟩
  unfold Oper.quietAt
  rw [eval_St, hr w']
  refine ⟨rfl, Calls.mono (hc w' hcx.1 hcx.2) ?_⟩
  rintro e w'' ⟨u, rfl, hb, rfl⟩
  exact ⟨rfl, hcx.1.call hb, hcx.2.trans (hb.mono hcx.2.size)⟩
theorem q_gcall {d j dj k : Nat} {pol c : Bool} {args : List Value} {v : Value} (hg : o.guard = some (j, pol)) (hd : o.dst = some d) (hj : (ops[j]?).bind (·.dst) = some dj) (hw : WantB (ev n f (.tmp dj)) pol c) (hr : c = true → Runs P (ev n f) o k args)
    (hc : c = true → ∀ w', Cxr w0 w' L R → Below w.heap.size w w' → Fc P k args w' (fun u _ => u = v))
    (h : wpQuiet P ops (Cq w0 w L R) K rest (St n (upd f d (gv c v)))) : wpQuiet P ops (Cq w0 w L R) K (o :: rest) (St n f) := by
  have hw := wanted_St (o := o) (ops := ops) hg hj hw
  refine wpQuiet_step fun K' hK => ?_
  rw [hw]
  cases c with
  | true =>
    simp only [if_true]
    refine ⟨v, fun w' hcx => ?_, hK _ (by rw [hd, put_St]; unfold gv at h; exact h)⟩
    unfold Oper.quietAt
    rw [eval_St, hr rfl w']
    refine ⟨rfl, Calls.mono (hc rfl w' hcx.1 hcx.2) ?_⟩
    rintro e w'' ⟨u, rfl, hb, rfl⟩
    exact ⟨rfl, hcx.1.call hb, hcx.2.trans (hb.mono hcx.2.size)⟩
  | false =>
    simp only [Bool.false_eq_true, if_false]
    refine hK _ ?_
    rw [hd, put_St]
    unfold gv at h
    exact h
end
/-- the bytes of a string in a slice of the call's own -/
theorem strOf_list : ∀ (l : List UInt8) (r : ByteArray), (l.map fun x : UInt8 => (x.toNat : Int)).foldl (fun r n => r.push (UInt8.ofNat n.toNat)) r = r ++ bs l
  | [], r => by
    apply ByteArray.ext
    simp [bs, ByteArray.data_append]
  | x :: l, r => by
    simp only [List.map_cons, List.foldl_cons]
    rw [strOf_list l]
    apply ByteArray.ext
    simp [bs, ByteArray.data_append, ByteArray.push]
theorem strOf_bs (l : List UInt8) : strOf (l.map fun x : UInt8 => (x.toNat : Int)) = bs l := by
  unfold strOf
  rw [strOf_list]
  apply ByteArray.ext
  simp [bs]
/-- a row of bytes of the call's own, which is not empty -/
theorem Cxr.bytes {w0 w : World} {L : List (Nat × Obj)} {R : List Row} {v : Value} {n : Nat} {xs : List Value} {l : List UInt8} (h : Cxr w0 w L (⟨5, 1, v, n, xs⟩ :: R)) (hn : n = l.length) (hx : xs = l.map bv) (h0 : 0 < n) : ∃ g c, v = .slice (some ⟨g, 0, none⟩) n c ∧ RowAt w g 0 (l.map bv) := by
  subst hx
  have hrow := h.rows _ (List.mem_cons_self ..)
  simp only at hrow
  rcases hrow.2 with ⟨_, h2⟩ | ⟨g, cap, cur, rfl, hb, hg, hnc, hcm, hcs, htake⟩
  · exfalso
    have := hrow.1
    rw [h2] at this
    simp at this
    omega
  · refine ⟨g, cap, rfl, fun j x hj => ?_⟩
    have := hrow.cells (g := g) rfl j x hj
    rwa [add_addr] at this
theorem row_next {w0 w : World} {L : List (Nat × Obj)} {R : List Row} {v : Value} {n : Nat} {xs : List Value} {a : UInt8} {q q' sg : List UInt8} (cx : Cxr w0 w L (⟨5, 1, v, n, xs⟩ :: R)) (hq : q' = q ++ sg) (hn : n = 1 + q.length + sg.length) (hx : xs = (a :: q).map bv ++ sg.map bv) :
    Cxr w0 w L (⟨5, 1, v, 1 + q'.length, (a :: q').map bv⟩ :: R) := by
  subst hq
  refine cx.row_eq (by rw [hn, List.length_append]; omega) (by rw [hx]; simp)
theorem row_more {w0 w : World} {L : List (Nat × Obj)} {R : List Row} {v : Value} {n : Nat} {xs : List Value} {q q' sg : List UInt8} (cx : Cxr w0 w L (⟨5, 1, v, n, xs⟩ :: R)) (hq : q' = q ++ sg) (hn : n = q.length + sg.length) (hx : xs = q.map bv ++ sg.map bv) :
    Cxr w0 w L (⟨5, 1, v, q'.length, q'.map bv⟩ :: R) := by
  subst hq
  refine cx.row_eq (by rw [hn, List.length_append]) (by rw [hx]; simp)
end Go.Dk
