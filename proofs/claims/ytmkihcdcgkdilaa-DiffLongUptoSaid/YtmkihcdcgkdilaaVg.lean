/-
  Overlays of values, in plain Lean; steps on pointers and parts of slices.
-/
import Derived.Test.YtmkihcdcgkdilaaVf
set_option linter.unusedVariables false
set_option linter.unusedSimpArgs false
namespace Go.Dk
open Go Go.RowKit

theorem Made.up {wc wc' w0 w' : World} {v : V} {x : Value} (h : Made wc wc' v x) (h0 : w0.heap.size ≤ wc.heap.size) (hK : Kp (Fr wc wc') wc' w') : Made w0 w' v x := by
  obtain ⟨bs, ls, fs, rs, e, h1, h2, h3, h4⟩ := h
  have hs : ∀ b, Fr wc wc' b → Fr w0 w' b := fun b hb => ⟨Nat.le_trans h0 hb.1, Nat.lt_of_lt_of_le hb.2 hK.sz⟩
  refine ⟨bs, ls, fs, rs, e, RepB.mono hs hK.kp h1, RepL.mono hs hK.kp h2, ⟨h3.1, ?_⟩, RowsF.mono (fun b hb => ⟨hs b hb.1, hb.2⟩) (fun b hb => hK.kp b hb.1) _ _ h4⟩
  rcases h3.2 with hn | ⟨g, cap, cur, hv, hb, hg, rest⟩
  · exact .inl hn
  · refine .inr ⟨g, cap, cur, hv, Nat.le_trans h0 hb, ?_, rest⟩
    rw [hK.kp g ⟨hb, (Array.getElem?_eq_some_iff.1 hg).1⟩]
    exact hg

section
variable {P : Program} {o : Oper} {w : World} {ρ : Operand → Value}
theorem v_nilCk {x : Operand} {a : Addr} (ho : o.op = .nilCheck x) (hx : ρ x = .pointer (some a)) : (execOp ρ o).run P w = .ok (.value (.pointer (some a))) w := by
  unfold execOp; rw [ho]
  simp [hx]
theorem v_ptrNil {t t' : TypeId} {x y : Operand} {a : Option Addr} (ho : o.op = .binOp .eql t x y t') (hx : ρ x = .pointer a) (hy : ρ y = .pointer none) (hu : P.underlying t = some (.pointer (P.pointee t))) : (execOp ρ o).run P w = .ok (.value (.bool a.isNone)) w := by
  unfold execOp; rw [ho]
  have := run_eql_pointer_nil (w := w) t a hu
  simp [hx, hy, eqGuard, this]
theorem v_ptrNe {t t' : TypeId} {x y : Operand} {a : Option Addr} (ho : o.op = .binOp .neq t x y t') (hx : ρ x = .pointer a) (hy : ρ y = .pointer none) (hu : P.underlying t = some (.pointer (P.pointee t))) : (execOp ρ o).run P w = .ok (.value (.bool a.isSome)) w := by
  unfold execOp; rw [ho]
  have := run_neq_pointer_nil (w := w) t a hu
  simp [hx, hy, eqGuard, this]
/-- the first elements of a slice -/
theorem v_slHi {t : TypeId} {x y : Operand} {s : Nat} {a : Option Addr} {len cap : Nat} {k : IntKind} {h : Int} (ht : P.underlying t = some (.slice (P.elem t))) (hs : (P.info? (P.elem t)).map (·.size) = some s) (ho : o.op = .slice t x none (some y) none) (hx : ρ x = .slice a len cap) (hy : ρ y = .int k h) (h0 : 0 ≤ h) (h1 : h ≤ cap) :
    (execOp ρ o).run P w = .ok (.value (sliced a 0 h.toNat cap s)) w := by
  unfold execOp; rw [ho]
  have := run_slice_h (w := w) t a len cap ht k h h0 h1
  simp [hx, hy, run_sliceAt_slice (w := w) t _ _ _ _ ht, this, run_size (w := w) hs]
/-- the elements from one on -/
theorem v_slLo {t : TypeId} {x y : Operand} {s : Nat} {a : Option Addr} {len cap : Nat} {k : IntKind} {h : Int} (ht : P.underlying t = some (.slice (P.elem t))) (hs : (P.info? (P.elem t)).map (·.size) = some s) (ho : o.op = .slice t x (some y) none none) (hx : ρ x = .slice a len cap) (hy : ρ y = .int k h) (h0 : 0 ≤ h) (h1 : h ≤ len) :
    (execOp ρ o).run P w = .ok (.value (sliced a h.toNat len cap s)) w := by
  unfold execOp; rw [ho]
  have := run_slice_l (w := w) t a len cap ht k h h0 h1
  simp [hx, hy, run_sliceAt_slice (w := w) t _ _ _ _ ht, this, run_size (w := w) hs]
end

/-- the end of a body: a result in a variable of its own, and one in a slot -/
theorem ret_cell2 {P : Program} {n : Nat} {f : Nat → Value} {w : World} {fn : Func} {R : Value → World → Prop} {t u T ty b : Nat} {l : List Value} {x : Value} {fr : Nat × Nat} {d : TypeDesc} (hr : fn.results = #[.cell t ty, .tmp u]) (hv : ev n f (.tmp t) = .pointer (some ⟨b, 0, none⟩)) (hx : ev n f (.tmp u) = x) (hb : w.heap[b]? = some (.cells l.toArray T fr))
    (hu : P.underlying ty = some d) (hdd : (match d with | .struct _ | .array _ _ => true | _ => false) = true) (hs : (P.info? ty).map (·.size) = some l.length) (h : R (.tuple #[.agg l.toArray, x]) w) : bodyPost P fn (fun e w' => ∃ v, e = .returned v ∧ R v w') .ret (St n f) w := by
  refine ⟨rfl, .tuple #[.agg l.toArray, x], ?_, _, rfl, h⟩
  have h1 : (St n f).tmps.getD t undef = .pointer (some ⟨b, 0, none⟩) := by rw [← hv, ← eval_St]; rfl
  have h2 : (St n f).tmps.getD u undef = x := by rw [← hx, ← eval_St]; rfl
  rw [results_cell_tmp hr]
  rw [h1, h2]
  simp [asAddr, run_loadVar_row w b T ty l.toArray fr d hb hu hdd (by simpa using hs), Result.andThen]

/-! ### plain -/
def zk (k : Int) : Sc := ⟨k, false, false, ByteArray.empty, 0, 0, 0, 0, 0, ByteArray.empty⟩
def mapV (l : List (ByteArray × V)) : V := .mk (zk 7) [] [] l
def nulV : V := .mk (zk 0) [] [] []
def hasF (k : ByteArray) (l : List (ByteArray × V)) : Option V := (l.find? fun kv => decide (kv.1 = k)).map (·.2)
def dropF (k : ByteArray) (l : List (ByteArray × V)) : List (ByteArray × V) := l.filter fun kv => !decide (kv.1 = k)
/-- each field of a key gets a value; where there is none, it comes last -/
def setF (k : ByteArray) (x : V) (l : List (ByteArray × V)) : List (ByteArray × V) := l.map fun kv => if kv.1 = k then (kv.1, x) else kv
def putF (k : ByteArray) (x : V) (l : List (ByteArray × V)) : List (ByteArray × V) := if (hasF k l).isSome then setF k x l else l ++ [(k, x)]
def ovl : Nat → V → V → V
  | 0, _, v => v
  | d + 1, b, v => if v.sc.kind = 7 then mapV (v.fields.foldl (fun l kv => if kv.2.sc.kind = 0 then dropF kv.1 l else putF kv.1 (ovl d ((hasF kv.1 l).getD nulV) kv.2) l) (if b.sc.kind = 7 then b.fields else [])) else v
def stepF (d : Nat) (l : List (ByteArray × V)) (kv : ByteArray × V) : List (ByteArray × V) := if kv.2.sc.kind = 0 then dropF kv.1 l else putF kv.1 (ovl d ((hasF kv.1 l).getD nulV) kv.2) l
theorem ovl_map {d : Nat} {b v : V} (h : v.sc.kind = 7) : ovl (d + 1) b v = mapV (v.fields.foldl (stepF d) (if b.sc.kind = 7 then b.fields else [])) := by
  unfold ovl; rw [if_pos h]; rfl
theorem ovl_else {d : Nat} {b v : V} (h : v.sc.kind ≠ 7) : ovl d b v = v := by
  cases d with
  | zero => rfl
  | succ d => unfold ovl; rw [if_neg h]
theorem hasF_take {k : ByteArray} {l : List (ByteArray × V)} {i : Nat} (h : ∀ j, j < i → ∀ kv, l[j]? = some kv → kv.1 ≠ k) (hi : i < l.length) (he : l[i].1 = k) : hasF k l = some l[i].2 := by
  induction l generalizing i with
  | nil => simp at hi
  | cons kv l ih =>
    unfold hasF
    cases i with
    | zero => simp only [List.getElem_cons_zero] at he; simp [List.find?, he]
    | succ i =>
      have h0 : kv.1 ≠ k := h 0 (by omega) kv rfl
      have := ih (i := i) (fun j hj kv' hk => h (j + 1) (by omega) kv' (by simpa using hk)) (by simpa using hi) (by simpa using he)
      unfold hasF at this
      simp [List.find?, h0, this]
theorem hasF_none {k : ByteArray} {l : List (ByteArray × V)} (h : ∀ (j : Nat) kv, l[j]? = some kv → kv.1 ≠ k) : hasF k l = none := by
  unfold hasF
  rw [List.find?_eq_none.2 ?_]
  · rfl
  · intro kv hkv
    obtain ⟨j, hj⟩ := List.getElem?_of_mem hkv
    simp [h j kv hj]
theorem dropF_ne {k : ByteArray} {l : List (ByteArray × V)} {kv : ByteArray × V} (h : kv.1 ≠ k) : dropF k (l ++ [kv]) = dropF k l ++ [kv] := by
  unfold dropF; rw [List.filter_append]; simp [h]
theorem dropF_eq {k : ByteArray} {l : List (ByteArray × V)} {kv : ByteArray × V} (h : kv.1 = k) : dropF k (l ++ [kv]) = dropF k l := by
  unfold dropF; rw [List.filter_append]; simp [h]
end Go.Dk
