/-
  More steps: results in variables, exact answers of predicates, maps whose values are all true.
-/
import Derived.Test.YthiafbkolhnadaaGreatDoorMp
import Derived.Test.YthiafbkolhnadaaGreatDoorBd
import Derived.Test.YthiafbkolhnadaaGreatDoorOr
set_option linter.unusedVariables false
namespace Go.Dk
open Go Go.RowKit
/-- the end of a body: a result in a variable of its own, and one in a slot -/
theorem ret_cell2 {P : Program} {n : Nat} {f : Nat → Value} {w : World} {fn : Func} {R : Value → World → Prop} {t u T ty b : Nat} {l : List Value} {x : Value} {fr : Nat × Nat} {d : TypeDesc} (hr : fn.results = #[.cell t ty, .tmp u]) (hv : ev n f (.tmp t) = .pointer (some ⟨b, 0, none⟩)) (hx : ev n f (.tmp u) = x) (hb : w.heap[b]? = some (.cells l.toArray T fr))
    (hu : P.underlying ty = some d) (hdd : (match d with | .struct _ | .array _ _ => true | _ => false) = true) (hs : (P.info? ty).map (·.size) = some l.length) (h : R (.tuple #[.agg l.toArray, x]) w) : bodyPost P fn (fun e w' => ∃ v, e = .returned v ∧ R v w') .ret (St n f) w := by
  refine ⟨rfl, .tuple #[.agg l.toArray, x], ?_, _, rfl, h⟩
  have h1 : (St n f).tmps.getD t undef = .pointer (some ⟨b, 0, none⟩) := by rw [← hv, ← eval_St]; rfl
  have h2 : (St n f).tmps.getD u undef = x := by rw [← hx, ← eval_St]; rfl
  rw [results_cell_tmp hr]
  rw [h1, h2]
  simp [asAddr, run_loadVar_row w b T ty l.toArray fr d hb hu hdd (by simpa using hs), Result.andThen]
open Classical in
theorem Fc.dec {P : Program} {k : FuncId} {args : List Value} {w : World} {X : Prop} (h : Fc P k args w (IsB fun b => b = true ↔ X)) : Fc P k args w (fun v _ => v = .bool (decide X)) :=
  h.mono fun v w' _ ⟨b, hv, hb⟩ => by
    rw [hv]
    congr 1
    by_cases hX : X
    · rw [decide_eq_true hX]; exact hb.2 hX
    · rw [decide_eq_false hX]
      cases b with
      | true => exact absurd (hb.1 rfl) hX
      | false => rfl
theorem Fc.ofI {P : Program} {k : FuncId} {args : List Value} {w : World} {z : Int} (h : Fc P k args w (IsI fun m => m = z)) : Fc P k args w (fun v _ => v = .int .i64 z) :=
  h.mono fun v w' _ ⟨m, hv, hm⟩ => by rw [hv, hm]
/-- a map in which each key stands for true -/
def tt : ByteArray → Value := fun _ => .bool true
theorem updC_tt (k : ByteArray) : updC tt k (.bool true) = tt := by funext x; unfold updC tt; split <;> rfl
section
variable {P : Program} {ops : Array Oper} {Q : Exit → Act → World → Prop} {rest : List Oper} {o : Oper} {n : Nat} {f : Nat → Value} {w w0 : World} {L : List (Nat × Obj)} {R : List Row} {ρ : Operand → Value}
theorem v_lookupT {t kt et : TypeId} {x y : Operand} {b m : Nat} {k : ByteArray} {ks : List ByteArray} (ho : o.op = .lookup t x y false) (hx : ρ x = .map (some b)) (hy : ρ y = .string k) (ht : P.underlying t = some (.map kt et)) (hk : P.underlying kt = some .string)
    (hz : (zeroValue et).run P w = .ok (.bool false) w) (hb : w.heap[b]? = some (.map (ents ks tt 0).toArray m)) : (execOp ρ o).run P w = .ok (.value (.bool (hasK ks k))) w := by
  have := v_lookupS ho hx hy ht hk hz hb
  rw [this]
  cases hasK ks k <;> rfl
theorem s_mapSetT {t kt et : TypeId} {x y z : Operand} {b : Nat} {k : ByteArray} {ks : List ByteArray} (cx : Cxr w0 w L R) (i : Nat) (hg : o.guard = none) (hd : o.dst = none) (ho : o.op = .mapUpdate t x y z) (hx : ev n f x = .map (some b)) (hy : ev n f y = .string k) (hz : ev n f z = .bool true)
    (ht : P.underlying t = some (.map kt et)) (hk : P.underlying kt = some .string) (hn : ks.Nodup) (hi : L[i]? = some (b, .map (ents ks tt 0).toArray ks.length)) (hnew : hasK ks k = false)
    (h : ∀ w', Cxr w0 w' (L.set i (b, .map (ents (ks ++ [k]) tt 0).toArray (ks ++ [k]).length)) R → w.grownBy w' (some b) → wpList P ops Q rest (St n f) w') : wpList P ops Q (o :: rest) (St n f) w := by
  have e : addK ks k = ks ++ [k] := by unfold addK; rw [if_neg (by rw [hnew]; exact Bool.noConfusion)]
  refine s_mapSet cx i hg hd ho hx hy hz ht hk hn hi fun w' cx' hgr => h w' ?_ hgr
  rw [e, updC_tt] at cx'
  exact cx'
end
theorem hasK_F {ks : List ByteArray} {k : ByteArray} (h : hasK ks k = false) : k ∉ ks := fun hm => by rw [hasK_iff.2 hm] at h; cases h
section
variable {P : Program} {ops : Array Oper} {pu : List (Nat × Nat)} {Q : Exit → Act → World → Prop} {S : World → Prop} {w : World} {l : Array Bool} {k : Nat} {a : Act}
theorem x_three {i j m : Nat} {o u t : Oper} (hr : Region.ready .any ops l = [i, j, m]) (ho : ops[i]? = some o) (hu : ops[j]? = some u) (ht : ops[m]? = some t) (h : wpList P ops (Fin0 fun a' w' => (S w' ∨ lateB ops pu i = true) ∧ wpX P ops pu Q S k (l.setIfInBounds i true) a' w') [o] a w)
    (h' : wpList P ops (Fin0 fun a' w' => (S w' ∨ lateB ops pu j = true) ∧ wpX P ops pu Q S k (l.setIfInBounds j true) a' w') [u] a w) (h'' : wpList P ops (Fin0 fun a' w' => (S w' ∨ lateB ops pu m = true) ∧ wpX P ops pu Q S k (l.setIfInBounds m true) a' w') [t] a w) : wpX P ops pu Q S (k + 1) l a w := by
  refine ⟨fun h0 => ?_, ?_⟩
  · rw [hr] at h0; cases h0
  · rw [hr]
    intro x hx
    have hx' : x = i ∨ x = j ∨ x = m := by simpa using hx
    rcases hx' with rfl | rfl | rfl
    · exact ⟨o, ho, h⟩
    · exact ⟨u, hu, h'⟩
    · exact ⟨t, ht, h''⟩
end
end Go.Dk
