/-
  Calls of a function that is held as a value.
-/
import Derived.Test.YtmkihcdcgkdilaaVk
set_option linter.unusedVariables false
namespace Go.Dk
open Go Go.RowKit
section
variable {P : Program} {ops : Array Oper} {Q : Exit → Act → World → Prop} {rest : List Oper} {o : Oper} {n : Nat} {f : Nat → Value} {w w0 : World} {L : List (Nat × Obj)} {R : List Row}
/-- a call of a function value by the function's contract -/
theorem s_callv {d k : Nat} {x : Operand} {opd : Array Operand} {ats : Array TypeId} {fn : Func} {args cap : List Value} {T : Value → World → Prop} (hc : Ret P k (args ++ cap) w T) (hf : P.funcs[k]? = some fn) (hb : fn.body.isNone = false) (hn : (fn.name == "runtime.NumGoroutine") = false)
    (hg : o.guard = none) (hd : o.dst = some d) (ho : o.op = .call { callee := .value x, args := opd, argTypes := ats }) (hx : ev n f x = .func (.func k) #[] cap.toArray) (hargs : opd.toList.map (ev n f) = args)
    (h : ∀ v w', T v w' → wpList P ops Q rest (St n (upd f d v)) w') : wpList P ops Q (o :: rest) (St n f) w := by
  refine wpList_plain hg fun K hK => ?_
  have hrun : (execOp (ev n f) o).run P w = .ok (.enter k (args ++ cap).toArray) w := by
    have h1 : fn.name ≠ "runtime.NumGoroutine" := by simpa using hn
    have h2 : ¬ fn.body = none := by intro e; simp [e] at hb
    unfold execOp; rw [ho]
    have e : opd.map (ev n f) = args.toArray := by rw [← hargs]; apply Array.ext'; simp
    simp [resolve, e, hx, Deferred.ofValue, invoke, callFunc, hf, h1, h2]
  unfold Oper.wp
  rw [eval_St, hrun]
  refine Calls.mono hc ?_
  rintro e w' ⟨v, rfl, hv⟩
  show K ((St n f).put o.dst v) w'
  refine hK _ _ ?_
  rw [hd, put_St]
  exact h v w' hv
theorem s_fnv {d k : Nat} {x : Operand} {opd : Array Operand} {ats : Array TypeId} {fn : Func} {args cap : List Value} {T : Value → World → Prop} (cx : Cxr w0 w L R) (hc : Fc P k (args ++ cap) w T) (hf : P.funcs[k]? = some fn) (hb : fn.body.isNone = false) (hn : (fn.name == "runtime.NumGoroutine") = false)
    (hg : o.guard = none) (hd : o.dst = some d) (ho : o.op = .call { callee := .value x, args := opd, argTypes := ats }) (hx : ev n f x = .func (.func k) #[] cap.toArray) (hargs : opd.toList.map (ev n f) = args)
    (h : ∀ v w', Cxr w0 w' L R → Below w.heap.size w w' → T v w' → wpList P ops Q rest (St n (upd f d v)) w') : wpList P ops Q (o :: rest) (St n f) w :=
  s_callv hc hf hb hn hg hd ho hx hargs fun v w' ⟨hw, hr⟩ => h v w' (cx.call hw) hw hr
end
end Go.Dk
