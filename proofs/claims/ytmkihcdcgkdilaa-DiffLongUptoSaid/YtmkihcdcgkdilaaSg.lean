/-
  More steps: calls of function values under a guard; comparisons of bools; answers that are told by a sentence.
-/
import Derived.Test.YtmkihcdcgkdilaaSf
set_option linter.unusedVariables false
set_option linter.unusedSimpArgs false
namespace Go.Dk
open Go Go.RowKit
section
variable {P : Program} {ops : Array Oper} {Q : Exit → Act → World → Prop} {rest : List Oper} {o : Oper} {n : Nat} {f : Nat → Value} {w w0 : World} {L : List (Nat × Obj)} {R : List Row} {ρ : Operand → Value}
theorem s_fnR {d k : Nat} {args : List Value} {T : Value → World → Prop} (cx : Cxr w0 w L R) (hc : Fc P k args w T) (hg : o.guard = none) (hd : o.dst = some d) (hr : Runs P (ev n f) o k args)
    (h : ∀ v w', Cxr w0 w' L R → Below w.heap.size w w' → T v w' → wpList P ops Q rest (St n (upd f d v)) w') : wpList P ops Q (o :: rest) (St n f) w :=
  s_callR hg hd hr hc fun v w' ⟨hw, hr⟩ => h v w' (cx.call hw) hw hr
theorem s_fnRB {d k : Nat} {args : List Value} {p : Bool → Prop} (cx : Cxr w0 w L R) (hc : Fc P k args w (IsB p)) (hg : o.guard = none) (hd : o.dst = some d) (hr : Runs P (ev n f) o k args)
    (h : ∀ b w', Cxr w0 w' L R → Below w.heap.size w w' → p b → wpList P ops Q rest (St n (upd f d (.bool b))) w') : wpList P ops Q (o :: rest) (St n f) w :=
  s_fnR cx hc hg hd hr fun v w' hcx hw ⟨b, hv, hp⟩ => by subst hv; exact h b w' hcx hw hp
theorem s_gfnR {d j dj k : Nat} {pol c : Bool} {args : List Value} {T : Value → World → Prop} (cx : Cxr w0 w L R) (hg : o.guard = some (j, pol)) (hd : o.dst = some d) (hj : (ops[j]?).bind (·.dst) = some dj) (hw : WantB (ev n f (.tmp dj)) pol c)
    (hc : c = true → Fc P k args w T) (hr : c = true → Runs P (ev n f) o k args)
    (h : ∀ v w', Cxr w0 w' L R → Below w.heap.size w w' → (c = true → T v w') → wpList P ops Q rest (St n (upd f d (gv c v))) w') : wpList P ops Q (o :: rest) (St n f) w := by
  have hwant := wanted_St (o := o) (ops := ops) hg hj hw
  refine wpList_step fun K hK => ?_
  rw [hwant]
  cases c with
  | true =>
    simp only [if_true]
    unfold Oper.wp
    rw [eval_St, hr rfl w]
    refine Calls.mono (hc rfl) ?_
    rintro e w' ⟨v, rfl, hbel, hr⟩
    show K ((St n f).put o.dst v) w'
    refine hK _ _ ?_
    rw [hd, put_St]
    have h := h v w' (cx.call hbel) hbel fun _ => hr
    unfold gv at h
    exact h
  | false =>
    simp only [Bool.false_eq_true, if_false]
    refine hK _ _ ?_
    rw [hd, put_St]
    have h := h undef w cx (Below.refl _ _) (fun e => by cases e)
    unfold gv at h
    exact h
theorem s_gfnRB {d j dj k : Nat} {pol c : Bool} {args : List Value} {p : Bool → Prop} (cx : Cxr w0 w L R) (hg : o.guard = some (j, pol)) (hd : o.dst = some d) (hj : (ops[j]?).bind (·.dst) = some dj) (hw : WantB (ev n f (.tmp dj)) pol c)
    (hc : c = true → Fc P k args w (IsB p)) (hr : c = true → Runs P (ev n f) o k args)
    (h : ∀ b w', Cxr w0 w' L R → Below w.heap.size w w' → (c = true → p b) → wpList P ops Q rest (St n (upd f d (gv c (.bool b)))) w') : wpList P ops Q (o :: rest) (St n f) w := by
  refine s_gfnR cx hg hd hj hw hc hr fun v w' hcx hbel hr => ?_
  cases c with
  | true =>
    obtain ⟨b, rfl, hp⟩ := hr rfl
    exact h b w' hcx hbel fun _ => hp
  | false =>
    have h := h false w' hcx hbel fun e => by cases e
    unfold gv at h ⊢
    exact h
theorem v_boolNe {t t' : TypeId} {x y : Operand} {a b : Bool} (ho : o.op = .binOp .neq t x y t') (hx : ρ x = .bool a) (hy : ρ y = .bool b) (hu : P.underlying t = some .bool) : (execOp ρ o).run P w = .ok (.value (.bool (!decide (a = b)))) w := by
  unfold execOp; rw [ho]
  have := run_neq_bool (w := w) t a b hu
  have e : (!(a == b)) = !decide (a = b) := by cases a <;> cases b <;> rfl
  rw [e] at this
  simp [hx, hy, eqGuard, this]
theorem Fc.det {k : Nat} {args : List Value} {p : Bool → Prop} {b0 : Bool} (h : Fc P k args w (IsB p)) (hp : ∀ b, p b → b = b0) : Fc P k args w (fun u _ => u = .bool b0) :=
  h.mono fun v w' _ ⟨b, hv, hb⟩ => by rw [hv, hp b hb]
/-- a guarded operation that allocates nothing and yields a value, in a plain region -/
theorem bool_of (p : Prop) : ∃ b : Bool, b = true ↔ p := ⟨@decide p (Classical.propDecidable p), @decide_eq_true_iff p (Classical.propDecidable p)⟩
end
end Go.Dk
namespace Go.Proofs.Ytmkihcdcgkdilaa
open Go Go.Dk Go.RowKit
theorem z39 : Zero Try.prog 39 [.nilFunc] := zero_of (v := .nilFunc) (by kernel_rfl) rfl
end Go.Proofs.Ytmkihcdcgkdilaa
