/-
  Several texts in one: Mp Or Bf Bg Bh Bs Bu Rq Rv Rr
-/
import Derived.Test.YthlkmblljanfmaaGreatDoorWA
import Derived.MapKept
import Derived.Orders
import Derived.Lib.ConvBytes
import Derived.Lib.FrozenHead
import Derived.Test.YthlkmblljanfmaaGreatDoorWF
import Derived.Test.YthlkmblljanfmaaGreatDoorWG
import Derived.Test.YthlkmblljanfmaaGreatDoorWE
section
set_option linter.unusedVariables false
namespace Go.Dk
open Go Go.RowKit
def hasK (ks : List ByteArray) (k : ByteArray) : Bool := ks.any fun x => decide (x = k)
theorem hasK_iff {ks : List ByteArray} {k : ByteArray} : hasK ks k = true ↔ k ∈ ks := by
  unfold hasK
  rw [List.any_eq_true]
  simp
def addK (ks : List ByteArray) (k : ByteArray) : List ByteArray := if hasK ks k then ks else ks ++ [k]
def idxK (ks : List ByteArray) (k : ByteArray) : Nat := ks.findIdx fun x => decide (x = k)
def ents : List ByteArray → (ByteArray → Value) → Nat → List MapEntry
  | [], _, _ => []
  | k :: ks, c, n => ⟨.string k, c k, n⟩ :: ents ks c (n + 1)
def updC (c : ByteArray → Value) (k : ByteArray) (v : Value) : ByteArray → Value := fun x => if x = k then v else c x
theorem ba_beq (a b : ByteArray) : (a == b) = decide (a = b) := by
  rw [Bool.eq_iff_iff, decide_eq_true_eq]
  cases a; cases b
  constructor
  · intro h
    exact congrArg ByteArray.mk (eq_of_beq (show ((_ : Array UInt8) == _) = true from h))
  · intro h
    cases h
    exact beq_self_eq_true (α := Array UInt8) _
theorem find_ents (k : ByteArray) : ∀ (ks : List ByteArray) (c : ByteArray → Value) (n j : Nat), Instr.findNow .string (.string k) (ents ks c n) j = some (if hasK ks k then some (j + idxK ks k, c k) else none)
  | [], c, n, j => rfl
  | x :: ks, c, n, j => by
    have ih := find_ents k ks c (n + 1) (j + 1)
    unfold ents Instr.findNow
    simp only [Instr.sameNow]
    by_cases h : x = k
    · subst h
      rw [ba_beq, decide_eq_true rfl]
      simp [hasK, idxK, List.findIdx_cons]
    · have h2 : (k == x) = false := by rw [ba_beq]; exact decide_eq_false fun e => h e.symm
      rw [h2]
      simp only [ih]
      have e1 : hasK (x :: ks) k = hasK ks k := by simp [hasK, h]
      have e2 : idxK (x :: ks) k = idxK ks k + 1 := by simp [idxK, List.findIdx_cons, h]
      rw [e1, e2, show j + 1 + idxK ks k = j + (idxK ks k + 1) by omega]
theorem ents_len : ∀ (ks : List ByteArray) (c : ByteArray → Value) (n : Nat), (ents ks c n).length = ks.length
  | [], _, _ => rfl
  | k :: ks, c, n => by simp [ents, ents_len ks c (n + 1)]
theorem ents_congr {c c' : ByteArray → Value} : ∀ (ks : List ByteArray) (n : Nat), (∀ k ∈ ks, c k = c' k) → ents ks c n = ents ks c' n
  | [], _, _ => rfl
  | k :: ks, n, h => by
    unfold ents
    rw [h k (by simp), ents_congr ks (n + 1) fun x hx => h x (List.mem_cons_of_mem _ hx)]
theorem ents_at (k : ByteArray) : ∀ (ks : List ByteArray) (c : ByteArray → Value) (n : Nat), hasK ks k = true → (ents ks c n)[idxK ks k]?.map (·.key) = some (.string k)
  | [], c, n, h => by simp [hasK] at h
  | x :: ks, c, n, h => by
    by_cases hx : x = k
    · subst hx
      simp [idxK, ents, List.findIdx_cons]
    · have e2 : idxK (x :: ks) k = idxK ks k + 1 := by simp [idxK, List.findIdx_cons, hx]
      rw [e2]
      have := ents_at k ks c (n + 1) (by simpa [hasK, hx] using h)
      simpa [ents] using this
theorem ents_set (k : ByteArray) (v : Value) : ∀ (ks : List ByteArray) (c : ByteArray → Value) (n : Nat), ks.Nodup → hasK ks k = true → (ents ks c n).modify (idxK ks k) (fun e => { e with key := .string k, val := v }) = ents ks (updC c k v) n
  | [], c, n, _, h => by simp [hasK] at h
  | x :: ks, c, n, hn, h => by
    obtain ⟨h1, h2⟩ := List.nodup_cons.1 hn
    by_cases hx : x = k
    · subst hx
      have e0 : idxK (x :: ks) x = 0 := by simp [idxK, List.findIdx_cons]
      rw [e0]
      show _ :: ents ks c (n + 1) = _ :: ents ks (updC c x v) (n + 1)
      rw [ents_congr (c := c) (c' := updC c x v) ks (n + 1) fun y hy => by
        unfold updC; rw [if_neg]; rintro rfl; exact h1 hy]
      simp [updC]
    · have e2 : idxK (x :: ks) k = idxK ks k + 1 := by simp [idxK, List.findIdx_cons, hx]
      rw [e2]
      have := ents_set k v ks c (n + 1) h2 (by simpa [hasK, hx] using h)
      simp only [ents, List.modify_succ_cons, this]
      simp [updC, hx]
theorem ents_push (k : ByteArray) (v : Value) : ∀ (ks : List ByteArray) (c : ByteArray → Value) (n : Nat), hasK ks k = false → ents ks c n ++ [⟨.string k, v, n + ks.length⟩] = ents (ks ++ [k]) (updC c k v) n
  | [], c, n, _ => by simp [ents, updC]
  | x :: ks, c, n, h => by
    have hx : x ≠ k := by rintro rfl; simp [hasK] at h
    have := ents_push k v ks c (n + 1) (by simpa [hasK, hx] using h)
    rw [List.cons_append]
    unfold ents
    rw [List.cons_append, ← this]
    simp [updC, hx]
    omega
section
variable {P : Program} {ops : Array Oper} {Q : Exit → Act → World → Prop} {rest : List Oper} {o : Oper} {n : Nat} {f : Nat → Value} {w w0 : World} {L : List (Nat × Obj)} {R : List Row} {ρ : Operand → Value}
theorem s_makeMap {d : Nat} {t : TypeId} (cx : Cxr w0 w L R) (hg : o.guard = none) (hd : o.dst = some d) (ho : o.op = .makeMap t none)
    (h : ∀ b w', Cxr w0 w' ((b, .map (ents [] (fun _ => default) 0).toArray 0) :: L) R → w.heap.size = b → Below w.heap.size w w' → wpList P ops Q rest (St n (upd f d (.map (some b)))) w') : wpList P ops Q (o :: rest) (St n f) w := by
  refine s_new (w' := w.alloc (.map (ents [] (fun _ => default) 0).toArray 0)) (v := .map (some w.heap.size)) hg hd ?_ (h _ _ (cx.alloc _) rfl ((Below.refl _ _).alloc (Nat.le_refl _) _))
  unfold execOp; rw [ho]
  simp [Instr.makeMap, ents]
theorem run_checkStr {kt : TypeId} {k : ByteArray} (e : Bool) (hk : P.underlying kt = some .string) : (Instr.checkKey e 10000 kt (.string k)).run P w = .ok () w := by
  rw [show (10000 : Nat) = 9999 + 1 from rfl, Instr.checkKey]
  simp [run_underlying hk]
theorem run_findKey {kt : TypeId} {k : ByteArray} {ks : List ByteArray} {c : ByteArray → Value} {m : Nat} (hk : P.underlying kt = some .string) : (Instr.findKey kt (.string k) (ents ks c m)).run P w = .ok (if hasK ks k then some (idxK ks k, c k) else none) w := by
  have := find_ents k ks c m 0
  rw [Nat.zero_add] at this
  simp [Instr.findKey, run_underlying hk, this]
theorem v_lookupS {t kt et : TypeId} {x y : Operand} {b m : Nat} {k : ByteArray} {ks : List ByteArray} {c : ByteArray → Value} (ho : o.op = .lookup t x y false) (hx : ρ x = .map (some b)) (hy : ρ y = .string k) (ht : P.underlying t = some (.map kt et)) (hk : P.underlying kt = some .string)
    {z : Value} (hz : (zeroValue et).run P w = .ok z w) (hb : w.heap[b]? = some (.map (ents ks c 0).toArray m)) : (execOp ρ o).run P w = .ok (.value (if hasK ks k then c k else z)) w := by
  unfold execOp; rw [ho]
  simp only [hx, hy]
  have h1 := MapKept.run_getObj_map (P := P) hb
  have h2 := fun e => run_checkStr (P := P) (w := w) (k := k) e hk
  have h3 := run_findKey (P := P) (w := w) (k := k) (ks := ks) (c := c) (m := 0) hk
  by_cases hh : hasK ks k = true
  · rw [if_pos hh] at h3 ⊢
    simp [Instr.lookup, run_underlying ht, h1, h2, h3, Result.andThen]
  · rw [if_neg hh] at h3 ⊢
    simp [Instr.lookup, run_underlying ht, h1, h2, h3, hz, Result.andThen]
theorem s_mapSet {t kt et : TypeId} {x y z : Operand} {b : Nat} {k : ByteArray} {ks : List ByteArray} {c : ByteArray → Value} {v : Value} (cx : Cxr w0 w L R) (i : Nat) (hg : o.guard = none) (hd : o.dst = none) (ho : o.op = .mapUpdate t x y z) (hx : ev n f x = .map (some b)) (hy : ev n f y = .string k) (hz : ev n f z = v)
    (ht : P.underlying t = some (.map kt et)) (hk : P.underlying kt = some .string) (hn : ks.Nodup) (hi : L[i]? = some (b, .map (ents ks c 0).toArray ks.length))
    (h : ∀ w', Cxr w0 w' (L.set i (b, .map (ents (addK ks k) (updC c k v) 0).toArray (addK ks k).length)) R → w.grownBy w' (some b) → wpList P ops Q rest (St n f) w') : wpList P ops Q (o :: rest) (St n f) w := by
  have hb := cx.at i hi
  have hlt : b < w.heap.size := (Array.getElem?_eq_some_iff.1 hb).1
  have h1 := MapKept.run_getObj_map (P := P) hb
  have h2 := run_checkStr (P := P) (w := w) (k := k) false hk
  have h3 := run_findKey (P := P) (w := w) (k := k) (ks := ks) (c := c) (m := 0) hk
  have hset : ∀ o', (setObj b o').run P w = .ok () { w with heap := w.heap.setIfInBounds b o' } := fun o' => MapKept.run_setObj_map o' hb
  have hgr : ∀ o', w.grownBy { w with heap := w.heap.setIfInBounds b o' } (some b) := fun o' => ⟨rfl, rfl, rfl, by simp, fun q _ hne => by
    show (w.heap.setIfInBounds b o')[q]? = _
    rw [Array.getElem?_setIfInBounds_ne (fun e => hne (by rw [e]))]⟩
  have hcx : ∀ o', Cxr w0 { w with heap := w.heap.setIfInBounds b o' } (L.set i (b, o')) R := fun o' => cx.turn i hi rfl rfl rfl (by simp) (by
    show (w.heap.setIfInBounds b o')[b]? = _
    simp [hlt]) fun q _ hne => by
      show (w.heap.setIfInBounds b o')[q]? = _
      rw [Array.getElem?_setIfInBounds_ne (Ne.symm hne)]
  by_cases hh : hasK ks k = true
  · rw [if_pos hh] at h3
    have e1 : addK ks k = ks := by unfold addK; rw [if_pos hh]
    have hkey := ents_at k ks c 0 hh
    have hst : (Instr.keyThatStays (.string k) (.string k)).run P w = .ok (.string k) w := by simp [Instr.keyThatStays, Instr.sameBits, ba_beq]
    have e2 : (ents ks c 0).toArray.modify (idxK ks k) (fun e => { e with key := .string k, val := v }) = (ents ks (updC c k v) 0).toArray := by
      rw [← ents_set k v ks c 0 hn hh]; simp
    refine s_put hg hd ?_ (h _ (by rw [e1]; exact hcx (.map (ents ks (updC c k v) 0).toArray ks.length)) (hgr _))
    unfold execOp; rw [ho]
    have hkey' : ((ents ks c 0)[idxK ks k]?.map (·.key)).getD (.string k) = .string k := by rw [hkey]; rfl
    simp [hx, hy, hz, Instr.mapUpdate, run_underlying ht, h1, h2, h3, hkey', hst, hset, Result.andThen]
    rw [ents_set k v ks c 0 hn hh]
  · rw [if_neg hh] at h3
    have hh' : hasK ks k = false := by simpa using hh
    have e1 : addK ks k = ks ++ [k] := by unfold addK; rw [if_neg hh]
    have e2 : (ents ks c 0).toArray.push ⟨.string k, v, ks.length⟩ = (ents (ks ++ [k]) (updC c k v) 0).toArray := by
      rw [← ents_push k v ks c 0 hh']; simp
    refine s_put hg hd ?_ (h _ (by rw [e1, List.length_append]; exact hcx (.map (ents (ks ++ [k]) (updC c k v) 0).toArray (ks.length + 1))) (hgr _))
    unfold execOp; rw [ho]
    simp [hx, hy, hz, Instr.mapUpdate, run_underlying ht, h1, h2, h3, hset, Result.andThen]
    simp only [← e2]
    simp
end
end Go.Dk
end
section
set_option linter.unusedVariables false
set_option linter.unusedSimpArgs false
namespace Go.Dk
open Go Go.RowKit
def lk (l : Array Bool) (i : Nat) : Bool := l.getD i false
def depsOf (ops : Array Oper) (j : Nat) : List Nat := match ops[j]? with
  | none => []
  | some o => (o.after.toList.filter (Region.binds .any)).map (·.on)
def isAnc (ops : Array Oper) : Nat → Nat → Nat → Bool
  | 0, _, _ => false
  | k + 1, i, j => (depsOf ops j).any fun e => e == i || isAnc ops k i e
def chkOrd (ops : Array Oper) (pu : List (Nat × Nat)) : Bool :=
  Region.noSelect ops &&
  ((List.range ops.size).all fun j => (depsOf ops j).all fun e => Nat.blt e j) &&
  (pu.all fun p => match ops[p.1]? with
    | none => false
    | some o => (match o.dst with | some d => Nat.beq d p.2 | none => false) &&
      (List.range ops.size).all fun j => match ops[j]? with
        | none => true
        | some oj => (match oj.dst with
            | none => true
            | some d => Nat.beq j p.1 || (!Nat.beq d p.2 && (pu.any (fun q => Nat.beq q.1 j) || !(o.looksAt ops).contains d || isAnc ops 12 p.1 j))) &&
          (!(oj.looksAt ops).contains p.2 || isAnc ops 12 p.1 j))
theorem anc_listed {ops : Array Oper} {listed : Array Bool} (hcl : ∀ j, lk listed j = true → ∀ e ∈ depsOf ops j, lk listed e = true) : ∀ (k i j : Nat), (∀ e ∈ depsOf ops j, lk listed e = true) → isAnc ops k i j = true → lk listed i = true
  | 0, _, _, _, h => by simp [isAnc] at h
  | k + 1, i, j, hj, h => by
    simp only [isAnc, List.any_eq_true, Bool.or_eq_true, beq_iff_eq] at h
    obtain ⟨e, he, rfl | h⟩ := h
    · exact hj e he
    · exact anc_listed hcl k i e (hcl e (hj e he)) h
def Fin0 (K : Act → World → Prop) : Exit → Act → World → Prop
  | .normal, a, w => K a w
  | _, _, _ => False
theorem Fin0.shut {K : Act → World → Prop} : ¬ LetsOut (Fin0 K) := fun ⟨_, _, h⟩ => h
def lateB (ops : Array Oper) (pu : List (Nat × Nat)) (i : Nat) : Bool := pu.all fun p => isAnc ops 12 p.1 i
def wpX (P : Program) (ops : Array Oper) (pu : List (Nat × Nat)) (Q : Exit → Act → World → Prop) (S : World → Prop) : Nat → Array Bool → Act → World → Prop
  | 0, _, _, _ => False
  | k + 1, l, a, w => (Region.ready .any ops l = [] → Q .normal a w) ∧
    ∀ i ∈ Region.ready .any ops l, ∃ o, ops[i]? = some o ∧ wpList P ops (Fin0 fun a' w' => (S w' ∨ lateB ops pu i = true) ∧ wpX P ops pu Q S k (l.setIfInBounds i true) a' w') [o] a w
structure Rl (bad : Nat → Prop) (a b : Act) : Prop where
  df : a.defers = b.defers
  sz : a.tmps.size = b.tmps.size
  tm : ∀ x, ¬ bad x → a.tmps[x]? = b.tmps[x]?
theorem Rl.eval {bad : Nat → Prop} {a b : Act} (h : Rl bad a b) {x : Operand} (hx : ∀ t, x = .tmp t → ¬ bad t) : a.eval x = b.eval x := by
  cases x with
  | tmp t =>
    have := h.tm t (hx t rfl)
    simp only [Act.eval, Array.getD_eq_getD_getElem?, this]
  | _ => rfl
theorem Rl.put {bad bad' : Nat → Prop} {a b : Act} (h : Rl bad a b) (d : Option Nat) (v : Value) (hb : ∀ x, ¬ bad' x → d = some x ∨ ¬ bad x) : Rl bad' (a.put d v) (b.put d v) := by
  cases d with
  | none => exact ⟨h.df, h.sz, fun x hx => h.tm x ((hb x hx).resolve_left (by simp))⟩
  | some d =>
    refine ⟨h.df, by simp [Act.put, h.sz], fun x hx => ?_⟩
    simp only [Act.put, Array.getElem?_setIfInBounds, h.sz]
    split
    · rfl
    · rename_i hne
      exact h.tm x ((hb x hx).resolve_left fun e => hne (by simpa using e))
section
variable {P : Program} {ops : Array Oper} {Q : Exit → Act → World → Prop} {S : World → Prop} {pu : List (Nat × Nat)}
theorem looks_ev {o : Oper} {bad : Nat → Prop} {a b : Act} (h : Rl bad a b) (hl : ∀ t ∈ o.looksAt ops, ¬ bad t) : (∀ x ∈ o.op.operands, a.eval x = b.eval x) ∧ Region.wanted o (yielded ops a.tmps) = Region.wanted o (yielded ops b.tmps) := by
  refine ⟨fun x hx => h.eval fun t e => hl t ?_, ?_⟩
  · subst e
    exact List.mem_append_left _ (List.mem_filterMap.2 ⟨.tmp t, by simpa using hx, rfl⟩)
  · unfold Region.wanted
    cases hg : o.guard with
    | none => rfl
    | some gw =>
      obtain ⟨g, want⟩ := gw
      have hy : yielded ops a.tmps g = yielded ops b.tmps g := by
        unfold yielded
        cases ht : (ops[g]?).bind (·.dst) with
        | none => rfl
        | some t =>
          have := h.tm t (hl t (by simp [Oper.looksAt, hg, ht]))
          simp [this]
      simp only [hy]
theorem step_rl {o : Oper} {bad bad' : Nat → Prop} {a b : Act} {w : World} {K K' : Act → World → Prop} (hns : ∀ cs b, o.op ≠ .select cs b) (h : Rl bad a b) (hl : ∀ t ∈ o.looksAt ops, ¬ bad t) (hb : ∀ x, ¬ bad' x → o.dst = some x ∨ ¬ bad x)
    (hK : ∀ a' b' w', Rl bad' a' b' → (∃ v df, b' = ({ b with defers := df } : Act).put o.dst v) → K b' w' → K' a' w') (H : wpList P ops (Fin0 K) [o] b w) :
    if Region.wanted o (yielded ops a.tmps) then o.wp P a w K' Q else K' (a.put o.dst undef) w := by
  obtain ⟨h1, h2⟩ := looks_ev h hl
  unfold wpList at H
  rw [← h2] at H
  split
  · rename_i hw
    rw [if_pos hw] at H
    rcases H with H | ⟨_, H⟩
    · unfold Oper.wp at *
      rw [execOp_congr o hns h1]
      generalize (execOp b.eval o).run P w = r at *
      cases r with
      | ok n w' =>
        cases n <;> simp only [Oper.upon] at H ⊢
        case value u => exact hK _ _ _ (h.put _ _ hb) ⟨u, b.defers, rfl⟩ H
        case skip => exact hK _ _ _ (h.put _ _ hb) ⟨undef, b.defers, rfl⟩ H
        case defer d =>
          refine hK _ _ _ (Rl.put (a := { a with defers := d :: a.defers }) (b := { b with defers := d :: b.defers }) ⟨by simp [h.df], h.sz, h.tm⟩ _ _ hb) ⟨undef, d :: b.defers, rfl⟩ H
        case enter f args =>
          refine Calls.mono H fun e w'' he => ?_
          cases e with
          | returned u => exact hK _ _ _ (h.put _ _ hb) ⟨u, b.defers, rfl⟩ he
          | panicked c => exact he.elim
          | outgrown => exact (Fin0.shut he).elim
        case row row args => exact Rows.mono H fun u w'' he => hK _ _ _ (h.put _ _ hb) ⟨u, b.defers, rfl⟩ he
      | halt x w' =>
        cases x <;> simp only [Oper.upon] at H ⊢
        case panic u => exact H.elim
    · exact (Fin0.shut H).elim
  · rename_i hw
    rw [if_neg hw] at H
    exact hK _ _ _ (h.put _ _ hb) ⟨undef, b.defers, rfl⟩ H
theorem chk_sel (h : chkOrd ops pu = true) : Region.noSelect ops = true := by
  unfold chkOrd at h; simp only [Bool.and_eq_true] at h; exact h.1.1
theorem chk_dep (h : chkOrd ops pu = true) (j e : Nat) (he : e ∈ depsOf ops j) : e < j := by
  unfold chkOrd at h; simp only [Bool.and_eq_true, List.all_eq_true, List.mem_range] at h
  have hj : j < ops.size := by
    rcases Nat.lt_or_ge j ops.size with h' | h'
    · exact h'
    · simp [depsOf, Array.getElem?_eq_none h'] at he
  have := h.1.2 j hj e he; simpa using this
theorem chk_pu (h : chkOrd ops pu = true) (p : Nat × Nat) (hp : p ∈ pu) : ∃ o, ops[p.1]? = some o ∧ True ∧ o.dst = some p.2 ∧
    ∀ j oj, ops[j]? = some oj → (∀ d, oj.dst = some d → j = p.1 ∨ (d ≠ p.2 ∧ (pu.any (fun q => Nat.beq q.1 j) = true ∨ d ∉ o.looksAt ops ∨ isAnc ops 12 p.1 j = true))) ∧ (p.2 ∈ oj.looksAt ops → isAnc ops 12 p.1 j = true) := by
  unfold chkOrd at h; simp only [Bool.and_eq_true, List.all_eq_true, List.mem_range] at h
  have h1 := h.2 p hp
  cases ho : ops[p.1]? with
  | none => rw [ho] at h1; cases h1
  | some o =>
    rw [ho] at h1
    simp only [Bool.and_eq_true, List.all_eq_true, List.mem_range] at h1
    obtain ⟨h3, h4⟩ := h1
    refine ⟨o, rfl, trivial, ?_, fun j oj hj => ?_⟩
    · cases hd : o.dst with
      | none => rw [hd] at h3; cases h3
      | some d => rw [hd] at h3; simpa using h3
    · have h5 := h4 j (Array.getElem?_eq_some_iff.1 hj).1
      rw [hj] at h5
      simp only [Bool.and_eq_true] at h5
      refine ⟨fun d hd => ?_, fun hm => ?_⟩
      · have h6 := h5.1
        rw [hd] at h6
        simp only [Bool.or_eq_true, Bool.and_eq_true, Nat.beq_eq, Bool.not_eq_true', List.contains_eq_mem, decide_eq_false_iff_not] at h6
        rcases h6 with h6 | ⟨h6, h7⟩
        · exact .inl h6
        · refine .inr ⟨fun e => by subst e; simp at h6, ?_⟩
          rcases h7 with (h7 | h7) | h7
          · exact .inl h7
          · exact .inr (.inl h7)
          · exact .inr (.inr h7)
      · have h6 := h5.2
        simp only [Bool.or_eq_true, Bool.not_eq_true', List.contains_eq_mem, decide_eq_false_iff_not] at h6
        exact h6.resolve_left fun h => h hm
theorem lk_set {l : Array Bool} {i j : Nat} (hi : i < l.size) : lk (l.setIfInBounds i true) j = (lk l j || Nat.beq i j) := by
  unfold lk
  by_cases hij : i = j
  · subst hij; simp [hi]
  · have : Nat.beq i j = false := by
      cases hb : Nat.beq i j
      · rfl
      · exact absurd (Nat.eq_of_beq_eq_true hb) hij
    simp [this, Array.getElem?_setIfInBounds_ne hij]
theorem getD_t {l : Array Bool} {i : Nat} (hi : i < l.size) : l.getD i true = lk l i := by
  unfold lk; simp [hi]
theorem ready_iff {listed : Array Bool} {j : Nat} (hs : listed.size = ops.size) : j ∈ Region.ready .any ops listed ↔ j < ops.size ∧ lk listed j = false ∧ ∀ e ∈ depsOf ops j, lk listed e = true := by
  rw [mem_ready]
  constructor
  · rintro ⟨h0, o, ho, h1⟩
    have hj := (Array.getElem?_eq_some_iff.1 ho).1
    refine ⟨hj, by rw [← getD_t (by omega)]; exact h0, fun e he => ?_⟩
    simp only [depsOf, ho, List.mem_map, List.mem_filter, Array.mem_toList_iff] at he
    obtain ⟨ed, ⟨he1, he2⟩, rfl⟩ := he
    exact h1 ed he1 he2
  · rintro ⟨hj, h0, h1⟩
    refine ⟨by rw [getD_t (by omega)]; exact h0, ops[j], Array.getElem?_eq_getElem hj, fun e he hb => ?_⟩
    refine h1 e.on ?_
    simp only [depsOf, Array.getElem?_eq_getElem hj, List.mem_map, List.mem_filter, Array.mem_toList_iff]
    exact ⟨e, ⟨he, hb⟩, rfl⟩
theorem ready_end (hch : chkOrd ops pu = true) {listed : Array Bool} (hs : listed.size = ops.size) (h : Region.ready .any ops listed = []) : ∀ i, i < ops.size → lk listed i = true := by
  intro i
  induction i using Nat.strongRecOn with
  | _ i ih =>
    intro hi
    cases hl : lk listed i with
    | true => rfl
    | false =>
      have : i ∈ Region.ready .any ops listed := (ready_iff hs).2 ⟨hi, hl, fun e he => ih e (chk_dep hch i e he) (by have := chk_dep hch i e he; omega)⟩
      rw [h] at this
      cases this
theorem count_set {l : Array Bool} {i : Nat} (hi : i < l.size) (h : lk l i = false) : (l.setIfInBounds i true).toList.count false + 1 = l.toList.count false := by
  have h0 : l.toList[i]'(by simpa using hi) = false := by
    simp only [lk] at h
    simpa [hi] using h
  have hpos : 0 < l.toList.count false := List.count_pos_iff.2 (by rw [← h0]; exact List.getElem_mem _)
  rw [Array.toList_setIfInBounds, List.count, List.countP_set (by simpa using hi), h0]
  unfold List.count at hpos
  have e1 : ((false : Bool) == false) = true := rfl
  have e2 : ((true : Bool) == false) = false := rfl
  rw [e1, e2, if_pos rfl, if_neg (by simp)]
  omega
theorem orders_done (hch : chkOrd ops pu = true) {k : Nat} {listed l : Array Bool} {a b : Act} {w : World} (hs : listed.size = ops.size) (hl : l.size = ops.size)
    (hm : ∀ i, i < ops.size → lk l i = (lk listed i || pu.any (fun q => Nat.beq q.1 i))) (hr : Rl (fun x => ∃ p ∈ pu, p.2 = x ∧ lk listed p.1 = false) a b) (hx : wpX P ops pu Q S k l b w) (h0 : Region.ready .any ops listed = []) : Q .normal a w := by
  have hall := ready_end hch hs h0
  have hab : a = b := by
    obtain ⟨ta, da⟩ := a
    obtain ⟨tb, db⟩ := b
    have h1 : da = db := hr.df
    have h2 : ta = tb := by
      apply Array.ext_getElem?
      intro x
      refine hr.tm x ?_
      rintro ⟨p, hp, _, hf⟩
      obtain ⟨o, ho, _⟩ := chk_pu hch p hp
      rw [hall p.1 (Array.getElem?_eq_some_iff.1 ho).1] at hf
      cases hf
    rw [h1, h2]
  subst hab
  cases k with
  | zero => exact hx.elim
  | succ k =>
    refine hx.1 ?_
    cases hrr : Region.ready .any ops l with
    | nil => rfl
    | cons x xs =>
      have hx : x ∈ Region.ready .any ops l := by rw [hrr]; exact List.mem_cons_self ..
      obtain ⟨h1, h2, _⟩ := (ready_iff hl).1 hx
      rw [hm x h1, hall x h1] at h2
      cases h2
theorem orders_go (hch : chkOrd ops pu = true) : ∀ (fuel k : Nat) (listed l : Array Bool) (a b : Act) (w : World), listed.toList.count false ≤ fuel → listed.size = ops.size → l.size = ops.size →
    (∀ i, i < ops.size → lk l i = (lk listed i || pu.any (fun q => Nat.beq q.1 i))) → (∀ j, lk listed j = true → ∀ e ∈ depsOf ops j, lk listed e = true) →
    Rl (fun x => ∃ p ∈ pu, p.2 = x ∧ lk listed p.1 = false) a b → (S w ∨ ∀ p ∈ pu, lk listed p.1 = true) →
    (∀ p ∈ pu, lk listed p.1 = false → ∃ o v, ops[p.1]? = some o ∧ b.tmps[p.2]? = some v ∧ Region.wanted o (yielded ops b.tmps) = true ∧ ∀ w', S w' → (execOp b.eval o).run P w' = .ok (.value v) w') →
    wpX P ops pu Q S k l b w → wpAny P .any ops Q fuel listed a w := by
  intro fuel
  induction fuel with
  | zero =>
    intro k listed l a b w hf hs hl hm hcl hr hS hp hx
    have h0 : Region.ready .any ops listed = [] := by
      cases hrr : Region.ready .any ops listed with
      | nil => rfl
      | cons x xs =>
        have hx : x ∈ Region.ready .any ops listed := by rw [hrr]; exact List.mem_cons_self ..
        obtain ⟨h1, h2, _⟩ := (ready_iff hs).1 hx
        have := count_set (l := listed) (by omega) h2
        omega
    exact ⟨h0, orders_done hch hs hl hm hr hx h0⟩
  | succ fuel ih =>
    intro k listed l a b w hf hs hl hm hcl hr hS hp hx
    refine ⟨orders_done hch hs hl hm hr hx, fun i hi => ?_⟩
    obtain ⟨hilt, hiun, hidep⟩ := (ready_iff hs).1 hi
    have hcnt := count_set (l := listed) (by omega) hiun
    obtain ⟨o, ho⟩ : ∃ o, ops[i]? = some o := ⟨_, Array.getElem?_eq_getElem hilt⟩
    have hns : ∀ cs bb, o.op ≠ .select cs bb := fun cs bb => Region.noSelect_spec (chk_sel hch) i o cs bb ho
    have hlook : ∀ t ∈ o.looksAt ops, ¬ ∃ p ∈ pu, p.2 = t ∧ lk listed p.1 = false := by
      rintro t ht ⟨p, hp1, rfl, hp2⟩
      obtain ⟨_, _, _, _, hq⟩ := chk_pu hch p hp1
      have := anc_listed hcl 12 p.1 i hidep ((hq i o ho).2 ht)
      rw [this] at hp2
      cases hp2
    have hset : ∀ j, lk (listed.setIfInBounds i true) j = (lk listed j || Nat.beq i j) := fun j => lk_set (by omega)
    have hcl' : ∀ j, lk (listed.setIfInBounds i true) j = true → ∀ e ∈ depsOf ops j, lk (listed.setIfInBounds i true) e = true := by
      intro j hj e he
      rw [hset, Bool.or_eq_true] at hj
      rw [hset, Bool.or_eq_true]
      rcases hj with hj | hj
      · exact .inl (hcl j hj e he)
      · obtain rfl := Nat.eq_of_beq_eq_true hj
        exact .inl (hidep e he)
    unfold wpOp
    simp only [ho]
    by_cases hpu : pu.any (fun q => Nat.beq q.1 i) = true
    · obtain ⟨p, hp1, hpi⟩ := List.any_eq_true.1 hpu
      obtain rfl := Nat.eq_of_beq_eq_true hpi
      obtain ⟨o1, v, ho1, hv, hwb, hrun⟩ := hp p hp1 hiun
      obtain ⟨o2, ho2, hgn, hds, hq⟩ := chk_pu hch p hp1
      obtain rfl : o = o1 := by rw [ho] at ho1; exact Option.some.inj ho1
      obtain rfl : o = o2 := by rw [ho] at ho2; exact Option.some.inj ho2
      have hwant : Region.wanted o (yielded ops a.tmps) = true := (looks_ev hr hlook).2.trans hwb
      rw [if_pos hwant]
      refine .inl ?_
      unfold Oper.wp
      have hS1 : S w := hS.resolve_right fun h => by rw [h p hp1] at hiun; cases hiun
      rw [execOp_congr o hns (looks_ev hr hlook).1, hrun w hS1, Oper.upon_value, hds]
      refine ih k _ l _ b w (by omega) (by simpa using hs) hl ?_ hcl' ⟨hr.df, by simp [Act.put, hr.sz], fun x hx => ?_⟩ (.inl hS1) ?_ hx
      · intro j hj
        rw [hset, hm j hj]
        by_cases hj' : p.1 = j
        · subst hj'; simp [hpu]
        · have : Nat.beq p.1 j = false := by
            cases hb : Nat.beq p.1 j
            · rfl
            · exact absurd (Nat.eq_of_beq_eq_true hb) hj'
          rw [this]; simp
      · simp only [Act.put, Array.getElem?_setIfInBounds]
        split
        · rename_i he
          subst he
          rw [if_pos (by rw [hr.sz]; exact (Array.getElem?_eq_some_iff.1 hv).1), hv]
        · rename_i hne
          refine hr.tm x ?_
          rintro ⟨p', hp', rfl, hl'⟩
          refine hx ⟨p', hp', rfl, ?_⟩
          rw [hset, hl']
          cases hb : Nat.beq p.1 p'.1
          · rfl
          · exfalso
            have he := Nat.eq_of_beq_eq_true hb
            obtain ⟨o3, ho3, _, hds3, _⟩ := chk_pu hch p' hp'
            rw [← he, ho] at ho3
            obtain rfl := Option.some.inj ho3
            rw [hds] at hds3
            exact hne (Option.some.inj hds3)
      · intro p' hp' hl'
        rw [hset, Bool.or_eq_false_iff] at hl'
        exact hp p' hp' hl'.1
    · have hpu' : pu.any (fun q => Nat.beq q.1 i) = false := by
        cases hh : pu.any (fun q => Nat.beq q.1 i) with
        | true => exact absurd hh hpu
        | false => rfl
      cases k with
      | zero => exact hx.elim
      | succ k =>
      have hil : i ∈ Region.ready .any ops l := (ready_iff hl).2 ⟨hilt, by rw [hm i hilt, hiun, hpu']; rfl, fun e he => by
        rw [hm e (by have := chk_dep hch i e he; omega), hidep e he]; rfl⟩
      obtain ⟨o', ho', hx'⟩ := hx.2 i hil
      obtain rfl : o = o' := by rw [ho] at ho'; exact Option.some.inj ho'
      have key := step_rl (Q := Q) (bad' := fun x => ∃ p ∈ pu, p.2 = x ∧ lk (listed.setIfInBounds i true) p.1 = false) (K' := wpAny P .any ops Q fuel (listed.setIfInBounds i true)) hns hr hlook (fun x hx => .inr fun hbad => by
          obtain ⟨p, hp1, hp2, hp3⟩ := hbad
          refine hx ⟨p, hp1, hp2, ?_⟩
          rw [hset, hp3]
          cases hb : Nat.beq i p.1
          · rfl
          · exfalso
            refine hpu (List.any_eq_true.2 ⟨p, hp1, ?_⟩)
            rw [Nat.eq_of_beq_eq_true hb, Nat.beq_refl]) ?_ hx'
      · split
        · rename_i hw; rw [if_pos hw] at key; exact .inl key
        · rename_i hw; rw [if_neg hw] at key; exact key
      · rintro a' b' w' hr' ⟨u, df, rfl⟩ ⟨hS', hx2⟩
        have hS2 : S w' ∨ ∀ p ∈ pu, lk (listed.setIfInBounds i true) p.1 = true := hS'.imp id fun hl p hp1 => by
          rw [hset, Bool.or_eq_true]
          exact .inl (anc_listed hcl 12 p.1 i hidep (List.all_eq_true.1 hl p hp1))
        refine ih k _ _ a' _ w' (by omega) (by simpa using hs) (by simpa using hl) ?_ hcl' hr' hS2 ?_ hx2
        · intro j hj
          rw [lk_set (by omega), hset, hm j hj]
          cases lk listed j <;> cases Nat.beq i j <;> simp
        · intro p hp1 hl'
          rw [hset, Bool.or_eq_false_iff] at hl'
          obtain ⟨o1, v, ho1, hv, hwb, hrun⟩ := hp p hp1 hl'.1
          obtain ⟨o2, ho2, hgn, hds, hq⟩ := chk_pu hch p hp1
          obtain rfl : o1 = o2 := by rw [ho1] at ho2; exact Option.some.inj ho2
          have hno : ∀ d, o.dst = some d → d ≠ p.2 ∧ d ∉ o1.looksAt ops := by
            intro d hd
            rcases (hq i o ho).1 d hd with he | ⟨h3, h4⟩
            · subst he; simp at hl'
            · refine ⟨h3, ?_⟩
              rcases h4 with h4 | h4 | h4
              · rw [hpu'] at h4; cases h4
              · exact h4
              · have := anc_listed hcl 12 p.1 i hidep h4
                rw [hl'.1] at this; cases this
          refine ⟨o1, v, ho1, ?_, (wanted_put (ops := ops) o1 { b with defers := df } o.dst u fun d hd => (hno d hd).2).trans hwb, fun w'' hS'' => ?_⟩
          · cases hd : o.dst with
            | none => simpa [Act.put, hd] using hv
            | some d => simp only [Act.put]; rw [Array.getElem?_setIfInBounds_ne (hno d hd).1]; exact hv
          · rw [← hrun w'' hS'']
            congr 1
            refine execOp_congr o1 (fun cs bb => Region.noSelect_spec (chk_sel hch) p.1 o1 cs bb ho1) fun x hx => ?_
            refine (Act.eval_put (a := { b with defers := df }) fun d hd hxd => (hno d hd).2 ?_).trans (by cases x <;> rfl)
            subst hxd
            exact List.mem_append_left _ (List.mem_filterMap.2 ⟨.tmp d, by simpa using hx, rfl⟩)
def mskOrd (ops : Array Oper) (pu : List (Nat × Nat)) (m : Array Bool) : Bool :=
  Nat.beq m.size ops.size && (List.range ops.size).all fun i => lk m i == pu.any (fun q => Nat.beq q.1 i)
end
section
variable {P : Program} {Q : Exit → Act → World → Prop} {S : World → Prop} {w w0 : World} {L : List (Nat × Obj)} {R : List Row} {n : Nat} {f : Nat → Value}
theorem w_orders {id : Nat} {l : List Oper} (cx : Cxr w0 w L R) (hm : P.follows .mixedOrders = true) (pu : List (Nat × Nat)) (m : Array Bool) (S : World → Prop) (g : Nat → Value)
    (hch : chkOrd l.toArray pu = true) (hmk : mskOrd l.toArray pu m = true) (hn : ∀ p ∈ pu, p.2 < n) (hag : ∀ x, (∀ p ∈ pu, p.2 ≠ x) → f x = g x)
    (hwt : ∀ p ∈ pu, ∃ o, l[p.1]? = some o ∧ Region.wanted o (yielded l.toArray (St n g).tmps) = true)
    (hp : ∀ w', S w' → ∀ p ∈ pu, ∃ o, l[p.1]? = some o ∧ (execOp (ev n g) o).run P w' = .ok (.value (g p.2)) w')
    (h : ∀ w', Cxr w0 w' L R → Below w.heap.size w w' → w'.heap = w.heap → S w' ∧ wpX P l.toArray pu Q S (l.length + 1) m (St n g) w') : (Code.region id l.toArray true).wp P Q (St n f) w := by
  refine wp_region_any hm ?_
  obtain ⟨hS, hX⟩ := h w.drew cx.draw ⟨rfl, rfl, rfl, Nat.le_refl _, fun _ _ => rfl⟩ rfl
  unfold mskOrd at hmk
  simp only [Bool.and_eq_true, Nat.beq_eq, List.all_eq_true, List.mem_range, beq_iff_eq] at hmk
  have hsz : (Array.replicate l.toArray.size false).size = l.toArray.size := by simp
  have hf : ∀ j, lk (Array.replicate l.toArray.size false) j = false := by
    intro j
    unfold lk
    by_cases hj : j < l.length <;> simp [hj]
  refine orders_go hch _ _ _ m (St n f) (St n g) w.drew ?_ hsz hmk.1 (fun i hi => by rw [hf, hmk.2 i hi]; simp) (fun j hj => by rw [hf] at hj; cases hj) ⟨rfl, by simp [St], fun x hx => ?_⟩ (.inl hS) ?_ hX
  · have := List.count_le_length (a := false) (l := (Array.replicate l.toArray.size false).toList)
    simp at this ⊢
  · simp only [St, Array.getElem?_ofFn]
    split
    · rw [hag x fun p hp e => hx ⟨p, hp, e, hf _⟩]
    · rfl
  · intro p hp1 _
    obtain ⟨o, _, _, _⟩ := chk_pu hch p hp1
    obtain ⟨o', ho', _⟩ : ∃ o, l.toArray[p.1]? = some o ∧ True := ⟨o, by assumption, trivial⟩
    refine ⟨o', g p.2, ho', ?_, ?_, fun w' hw => ?_⟩
    · simp only [St, Array.getElem?_ofFn]
      rw [dif_pos (hn p hp1)]
    · obtain ⟨o2, h2, h3⟩ := hwt p hp1
      obtain rfl : o' = o2 := by rw [List.getElem?_toArray] at ho'; rw [ho'] at h2; exact Option.some.inj h2
      exact h3
    · obtain ⟨o2, h2, h3⟩ := hp w' hw p hp1
      obtain rfl : o' = o2 := by rw [List.getElem?_toArray] at ho'; rw [ho'] at h2; exact Option.some.inj h2
      rw [eval_St]; exact h3
variable {ops : Array Oper} {l : Array Bool} {k : Nat} {a : Act} {pu : List (Nat × Nat)}
theorem x_done (hr : Region.ready .any ops l = []) (h : Q .normal a w) : wpX P ops pu Q S (k + 1) l a w := by
  refine ⟨fun _ => h, ?_⟩
  rw [hr]; intro i hi; cases hi
theorem x_one {i : Nat} {o : Oper} (hr : Region.ready .any ops l = [i]) (ho : ops[i]? = some o) (h : wpList P ops (Fin0 fun a' w' => (S w' ∨ lateB ops pu i = true) ∧ wpX P ops pu Q S k (l.setIfInBounds i true) a' w') [o] a w) : wpX P ops pu Q S (k + 1) l a w := by
  refine ⟨fun h0 => ?_, ?_⟩
  · rw [hr] at h0; cases h0
  · rw [hr]
    intro j hj
    obtain rfl : j = i := by simpa using hj
    exact ⟨o, ho, h⟩
theorem x_two {i j : Nat} {o u : Oper} (hr : Region.ready .any ops l = [i, j]) (ho : ops[i]? = some o) (hu : ops[j]? = some u) (h : wpList P ops (Fin0 fun a' w' => (S w' ∨ lateB ops pu i = true) ∧ wpX P ops pu Q S k (l.setIfInBounds i true) a' w') [o] a w)
    (h' : wpList P ops (Fin0 fun a' w' => (S w' ∨ lateB ops pu j = true) ∧ wpX P ops pu Q S k (l.setIfInBounds j true) a' w') [u] a w) : wpX P ops pu Q S (k + 1) l a w := by
  refine ⟨fun h0 => ?_, ?_⟩
  · rw [hr] at h0; cases h0
  · rw [hr]
    intro x hx
    have hx' : x = i ∨ x = j := by simpa using hx
    rcases hx' with rfl | rfl
    · exact ⟨o, ho, h⟩
    · exact ⟨u, hu, h'⟩
theorem wnt_none {o : Oper} {t : Array Value} (hg : o.guard = none) : Region.wanted o (yielded ops t) = true := by simp [Region.wanted, hg]
theorem wnt_some {o : Oper} {j dj : Nat} {pol : Bool} (hg : o.guard = some (j, pol)) (hj : (ops[j]?).bind (·.dst) = some dj) (hc : WantB (ev n f (.tmp dj)) pol true) : Region.wanted o (yielded ops (St n f).tmps) = true :=
  wanted_St hg hj hc
theorem x_next {K : Act → World → Prop} (h : K a w) : wpList P ops (Fin0 K) [] a w := h
def wpPu (P : Program) (ops : Array Oper) (n : Nat) (S : World → Prop) (F : (Nat → Value) → Prop) : List (Nat × Nat) → (Nat → Value) → Prop
  | [], f => F f
  | (i, d) :: r, f => ∃ o v, ops[i]? = some o ∧ Region.wanted o (yielded ops (St n f).tmps) = true ∧ (∀ w', S w' → (execOp (ev n f) o).run P w' = .ok (.value v) w') ∧ wpPu P ops n S F r (upd f d v)
def incr : List (Nat × Nat) → Bool
  | [] => true
  | p :: r => r.all (fun q => Nat.blt p.1 q.1) && incr r
theorem upd_ne {f : Nat → Value} {d x : Nat} {v : Value} (h : x ≠ d) : upd f d v x = f x := by rw [upd_eq, if_neg h]
theorem upd_self {f : Nat → Value} {d : Nat} {v : Value} : upd f d v d = v := by rw [upd_eq, if_pos rfl]
theorem wpPu_spec {pu : List (Nat × Nat)} {F : (Nat → Value) → Prop} (hch : chkOrd ops pu = true) : ∀ (r : List (Nat × Nat)) (f : Nat → Value), (∀ p ∈ r, p ∈ pu) → incr r = true → wpPu P ops n S F r f →
    ∃ g, F g ∧ (∀ x, (∀ p ∈ r, p.2 ≠ x) → f x = g x) ∧ ∀ p ∈ r, ∃ o, ops[p.1]? = some o ∧ Region.wanted o (yielded ops (St n g).tmps) = true ∧ ∀ w', S w' → (execOp (ev n g) o).run P w' = .ok (.value (g p.2)) w' := by
  intro r
  induction r with
  | nil => intro f _ _ h; exact ⟨f, h, fun _ _ => rfl, fun p hp => by cases hp⟩
  | cons p r ih =>
    intro f hsub hinc h
    obtain ⟨i, d⟩ := p
    obtain ⟨o, v, ho, hw, hv, hr⟩ := h
    simp only [incr, Bool.and_eq_true, List.all_eq_true] at hinc
    obtain ⟨g, hF, hag, hall⟩ := ih _ (fun q hq => hsub q (List.mem_cons_of_mem _ hq)) hinc.2 hr
    obtain ⟨o1, ho1, _, hd1, hq1⟩ := chk_pu hch (i, d) (hsub _ (List.mem_cons_self ..))
    obtain rfl : o = o1 := by rw [ho] at ho1; exact Option.some.inj ho1
    have hno : ∀ q ∈ (i, d) :: r, q.2 ∉ o.looksAt ops := by
      intro q hq hm
      obtain ⟨_, _, _, _, hq2⟩ := chk_pu hch q (hsub q hq)
      have ha := (hq2 i o ho).2 hm
      have hlt : ∀ k a b, isAnc ops k a b = true → a < b := by
        intro k
        induction k with
        | zero => intro a b h; simp [isAnc] at h
        | succ k ihk =>
          intro a b h
          simp only [isAnc, List.any_eq_true, Bool.or_eq_true, beq_iff_eq] at h
          obtain ⟨e, he, rfl | h⟩ := h
          · exact chk_dep hch b e he
          · exact Nat.lt_trans (ihk a e h) (chk_dep hch b e he)
      have h1 := hlt _ _ _ ha
      rcases List.mem_cons.1 hq with rfl | hq
      · simp at h1
      · have := hinc.1 q hq
        simp at this
        omega
    have hd2 : ∀ q ∈ r, q.2 ≠ d := by
      intro q hq e
      obtain ⟨oq, hoq, _, hdq, hqq⟩ := chk_pu hch q (hsub q (List.mem_cons_of_mem _ hq))
      rcases (hqq i o ho).1 d hd1 with h1 | ⟨h1, _⟩
      · have := hinc.1 q hq
        simp at this
        omega
      · exact h1 e.symm
    have hfg : ∀ t ∈ o.looksAt ops, f t = g t := by
      intro t ht
      have h1 : t ≠ d := fun e => hno (i, d) (List.mem_cons_self ..) (by subst e; exact ht)
      rw [← hag t fun q hq e => hno q (List.mem_cons_of_mem _ hq) (by subst e; exact ht), upd_ne h1]
    have hrl : Rl (fun x => x ∉ o.looksAt ops) (St n f) (St n g) := ⟨rfl, by simp [St], fun x hx => by
      simp only [St, Array.getElem?_ofFn]
      split
      · rw [hfg x (Classical.not_not.1 hx)]
      · rfl⟩
    have hlk := looks_ev (ops := ops) hrl (fun t ht => fun h => h ht)
    refine ⟨g, hF, fun x hx => ?_, fun q hq => ?_⟩
    · rw [← hag x fun q hq => hx q (List.mem_cons_of_mem _ hq), upd_ne fun e => hx (i, d) (List.mem_cons_self ..) e.symm]
    · rcases List.mem_cons.1 hq with rfl | hq
      · refine ⟨o, ho, hlk.2.symm.trans hw, fun w' hS => ?_⟩
        have e : execOp (ev n g) o = execOp (ev n f) o := by
          rw [← eval_St, ← eval_St]
          exact (execOp_congr o (fun cs bb => Region.noSelect_spec (chk_sel hch) i o cs bb ho) hlk.1).symm
        have e2 : g d = v := by rw [← hag d hd2, upd_self]
        rw [e, e2]
        exact hv w' hS
      · exact hall q hq
theorem w_ord {id : Nat} {l : List Oper} {Ls : List (Nat × Obj)} (cx : Cxr w0 w L R) (cxS : Cxr w0 w Ls []) (hm : P.follows .mixedOrders = true) (pu : List (Nat × Nat)) (m : Array Bool)
    (hch : chkOrd l.toArray pu = true) (hmk : mskOrd l.toArray pu m = true) (hn : pu.all (fun p => Nat.blt p.2 n) = true) (hi : incr pu = true)
    (h : wpPu P l.toArray n (fun w' => Cxr w0 w' Ls []) (fun g => ∀ w', Cxr w0 w' L R → Below w.heap.size w w' → wpX P l.toArray pu Q (fun w' => Cxr w0 w' Ls []) (l.length + 1) m (St n g) w') pu f) : (Code.region id l.toArray true).wp P Q (St n f) w := by
  obtain ⟨g, hF, hag, hall⟩ := wpPu_spec hch pu f (fun _ h => h) hi h
  refine w_orders cx hm pu m (fun w' => Cxr w0 w' Ls []) g hch hmk (fun p hp => by have := List.all_eq_true.1 hn p hp; simpa using this) hag (fun p hp => ?_) (fun w' hS p hp => ?_) fun w' hc hb he => ⟨cxS.call hb, hF w' hc hb⟩
  · obtain ⟨o, h1, h2, _⟩ := hall p hp; exact ⟨o, by simpa using h1, h2⟩
  · obtain ⟨o, h1, _, h2⟩ := hall p hp; exact ⟨o, by simpa using h1, h2 w' hS⟩
theorem pu_one {F : (Nat → Value) → Prop} {i d : Nat} {r : List (Nat × Nat)} {o : Oper} {v : Value} (ho : ops[i]? = some o) (hw : Region.wanted o (yielded ops (St n f).tmps) = true)
    (hv : ∀ w', S w' → (execOp (ev n f) o).run P w' = .ok (.value v) w') (h : wpPu P ops n S F r (upd f d v)) : wpPu P ops n S F ((i, d) :: r) f := ⟨o, v, ho, hw, hv, h⟩
theorem pu_nil {F : (Nat → Value) → Prop} (h : F f) : wpPu P ops n S F [] f := h
theorem Cxr.noR (h : Cxr w0 w L R) : Cxr w0 w L [] := ⟨h.ext, h.own, h.lo, h.nd, by simp, by simp, by simp⟩
theorem Cxr.pick1 (h : Cxr w0 w L R) (i : Nat) {p : Nat × Obj} (hi : L[i]? = some p) : Cxr w0 w [p] [] :=
  ⟨h.ext, fun q hq => by obtain rfl : q = p := by simpa using hq
                         exact h.own q (List.mem_of_getElem? hi), fun q hq => by obtain rfl : q = p := by simpa using hq
                                                                                 exact h.lo q (List.mem_of_getElem? hi), by simp, by simp, by simp, by simp⟩
theorem Cxr.pick2 (h : Cxr w0 w L R) (i j : Nat) {p q : Nat × Obj} (hi : L[i]? = some p) (hj : L[j]? = some q) (hij : Nat.beq i j = false) : Cxr w0 w [p, q] [] := by
  refine ⟨h.ext, fun x hx => ?_, fun x hx => ?_, ?_, by simp, by simp, by simp⟩
  · simp at hx
    rcases hx with rfl | rfl
    · exact h.own _ (List.mem_of_getElem? hi)
    · exact h.own _ (List.mem_of_getElem? hj)
  · simp at hx
    rcases hx with rfl | rfl
    · exact h.lo _ (List.mem_of_getElem? hi)
    · exact h.lo _ (List.mem_of_getElem? hj)
  · simp only [List.map_cons, List.map_nil, List.nodup_cons, List.mem_cons, List.not_mem_nil, or_false, not_false_eq_true, List.nodup_nil, and_true]
    intro e
    have h1 : (L.map (·.1))[i]? = some p.1 := by simp [hi]
    have h2 : (L.map (·.1))[j]? = some p.1 := by simp [hj, e]
    have hlt : i < (L.map (·.1)).length := (List.getElem?_eq_some_iff.1 h1).1
    have := (List.getElem?_inj hlt h.nd).1 (h1.trans h2.symm)
    subst this
    rw [Nat.beq_refl] at hij
    cases hij
theorem Cxr.pick3 (h : Cxr w0 w L R) (i j k : Nat) {p q r : Nat × Obj} (hi : L[i]? = some p) (hj : L[j]? = some q) (hk : L[k]? = some r) (hd : (!Nat.beq i j && !Nat.beq i k && !Nat.beq j k) = true) : Cxr w0 w [p, q, r] [] := by
  have key : ∀ (i j : Nat) (p q : Nat × Obj), L[i]? = some p → L[j]? = some q → Nat.beq i j = false → p.1 ≠ q.1 := by
    intro i j p q hi hj hij e
    have h1 : (L.map (·.1))[i]? = some p.1 := by simp [hi]
    have h2 : (L.map (·.1))[j]? = some p.1 := by simp [hj, e]
    have hlt : i < (L.map (·.1)).length := (List.getElem?_eq_some_iff.1 h1).1
    have := (List.getElem?_inj hlt h.nd).1 (h1.trans h2.symm)
    subst this
    rw [Nat.beq_refl] at hij
    cases hij
  simp only [Bool.and_eq_true, Bool.not_eq_true'] at hd
  refine ⟨h.ext, fun x hx => ?_, fun x hx => ?_, ?_, by simp, by simp, by simp⟩
  · simp at hx
    rcases hx with rfl | rfl | rfl
    · exact h.own _ (List.mem_of_getElem? hi)
    · exact h.own _ (List.mem_of_getElem? hj)
    · exact h.own _ (List.mem_of_getElem? hk)
  · simp at hx
    rcases hx with rfl | rfl | rfl
    · exact h.lo _ (List.mem_of_getElem? hi)
    · exact h.lo _ (List.mem_of_getElem? hj)
    · exact h.lo _ (List.mem_of_getElem? hk)
  · have h1 := key i j p q hi hj hd.1.1
    have h2 := key i k p r hi hk hd.1.2
    have h3 := key j k q r hj hk hd.2
    simp [h1, h2, h3]
end
end Go.Dk
end
section
set_option linter.unusedVariables false
namespace Go.Dk
open Go Go.RowKit
theorem ret_cell2 {P : Program} {n : Nat} {f : Nat → Value} {w : World} {fn : Func} {R : Value → World → Prop} {t u T ty b : Nat} {l : List Value} {x : Value} {fr : Nat × Nat} {d : TypeDesc} (hr : fn.results = #[.cell t ty, .tmp u]) (hv : ev n f (.tmp t) = .pointer (some ⟨b, 0, none⟩)) (hx : ev n f (.tmp u) = x) (hb : w.heap[b]? = some (.cells l.toArray T fr))
    (hu : P.underlying ty = some d) (hdd : (match d with | .struct _ | .array _ _ => true | _ => false) = true) (hs : (P.info? ty).map (·.size) = some l.length) (h : R (.tuple #[.agg l.toArray, x]) w) : bodyPost P fn (fun e w' => ∃ v, e = .returned v ∧ R v w') .ret (St n f) w := by
  refine ⟨rfl, .tuple #[.agg l.toArray, x], ?_, _, rfl, h⟩
  have h1 : (St n f).tmps.getD t undef = .pointer (some ⟨b, 0, none⟩) := by rw [← hv, ← eval_St]; rfl
  have h2 : (St n f).tmps.getD u undef = x := by rw [← hx, ← eval_St]; rfl
  rw [results_cell_tmp hr]
  rw [h1, h2]
  simp [asAddr, run_loadVar_row w b T ty l.toArray fr d hb hu hdd (by simpa using hs), Result.andThen]
open Classical in
theorem Fc.dec {P : Program} {k : FuncId} {args : List Value} {w : World} {X : Prop} (h : Fc P k args w (IsB fun b => b = true ↔ X)) : Fc P k args w (fun v _ => v = .bool (decide X)) :=
  h.mono fun v w' _ ⟨b, hv, hb⟩ => by
    rw [hv]
    congr 1
    by_cases hX : X
    · rw [decide_eq_true hX]; exact hb.2 hX
    · rw [decide_eq_false hX]
      cases b with
      | true => exact absurd (hb.1 rfl) hX
      | false => rfl
theorem Fc.ofI {P : Program} {k : FuncId} {args : List Value} {w : World} {z : Int} (h : Fc P k args w (IsI fun m => m = z)) : Fc P k args w (fun v _ => v = .int .i64 z) :=
  h.mono fun v w' _ ⟨m, hv, hm⟩ => by rw [hv, hm]
def tt : ByteArray → Value := fun _ => .bool true
theorem updC_tt (k : ByteArray) : updC tt k (.bool true) = tt := by funext x; unfold updC tt; split <;> rfl
section
variable {P : Program} {ops : Array Oper} {Q : Exit → Act → World → Prop} {rest : List Oper} {o : Oper} {n : Nat} {f : Nat → Value} {w w0 : World} {L : List (Nat × Obj)} {R : List Row} {ρ : Operand → Value}
theorem v_lookupT {t kt et : TypeId} {x y : Operand} {b m : Nat} {k : ByteArray} {ks : List ByteArray} (ho : o.op = .lookup t x y false) (hx : ρ x = .map (some b)) (hy : ρ y = .string k) (ht : P.underlying t = some (.map kt et)) (hk : P.underlying kt = some .string)
    (hz : (zeroValue et).run P w = .ok (.bool false) w) (hb : w.heap[b]? = some (.map (ents ks tt 0).toArray m)) : (execOp ρ o).run P w = .ok (.value (.bool (hasK ks k))) w := by
  have := v_lookupS ho hx hy ht hk hz hb
  rw [this]
  cases hasK ks k <;> rfl
theorem s_mapSetT {t kt et : TypeId} {x y z : Operand} {b : Nat} {k : ByteArray} {ks : List ByteArray} (cx : Cxr w0 w L R) (i : Nat) (hg : o.guard = none) (hd : o.dst = none) (ho : o.op = .mapUpdate t x y z) (hx : ev n f x = .map (some b)) (hy : ev n f y = .string k) (hz : ev n f z = .bool true)
    (ht : P.underlying t = some (.map kt et)) (hk : P.underlying kt = some .string) (hn : ks.Nodup) (hi : L[i]? = some (b, .map (ents ks tt 0).toArray ks.length)) (hnew : hasK ks k = false)
    (h : ∀ w', Cxr w0 w' (L.set i (b, .map (ents (ks ++ [k]) tt 0).toArray (ks ++ [k]).length)) R → w.grownBy w' (some b) → wpList P ops Q rest (St n f) w') : wpList P ops Q (o :: rest) (St n f) w := by
  have e : addK ks k = ks ++ [k] := by unfold addK; rw [if_neg (by rw [hnew]; exact Bool.noConfusion)]
  refine s_mapSet cx i hg hd ho hx hy hz ht hk hn hi fun w' cx' hgr => h w' ?_ hgr
  rw [e, updC_tt] at cx'
  exact cx'
end
theorem hasK_F {ks : List ByteArray} {k : ByteArray} (h : hasK ks k = false) : k ∉ ks := fun hm => by rw [hasK_iff.2 hm] at h; cases h
section
variable {P : Program} {ops : Array Oper} {pu : List (Nat × Nat)} {Q : Exit → Act → World → Prop} {S : World → Prop} {w : World} {l : Array Bool} {k : Nat} {a : Act}
theorem x_three {i j m : Nat} {o u t : Oper} (hr : Region.ready .any ops l = [i, j, m]) (ho : ops[i]? = some o) (hu : ops[j]? = some u) (ht : ops[m]? = some t) (h : wpList P ops (Fin0 fun a' w' => (S w' ∨ lateB ops pu i = true) ∧ wpX P ops pu Q S k (l.setIfInBounds i true) a' w') [o] a w)
    (h' : wpList P ops (Fin0 fun a' w' => (S w' ∨ lateB ops pu j = true) ∧ wpX P ops pu Q S k (l.setIfInBounds j true) a' w') [u] a w) (h'' : wpList P ops (Fin0 fun a' w' => (S w' ∨ lateB ops pu m = true) ∧ wpX P ops pu Q S k (l.setIfInBounds m true) a' w') [t] a w) : wpX P ops pu Q S (k + 1) l a w := by
  refine ⟨fun h0 => ?_, ?_⟩
  · rw [hr] at h0; cases h0
  · rw [hr]
    intro x hx
    have hx' : x = i ∨ x = j ∨ x = m := by simpa using hx
    rcases hx' with rfl | rfl | rfl
    · exact ⟨o, ho, h⟩
    · exact ⟨u, hu, h'⟩
    · exact ⟨t, ht, h''⟩
end
end Go.Dk
end
section
set_option linter.unusedVariables false
namespace Go.Dk
open Go Go.RowKit
section
variable {P : Program} {ops : Array Oper} {Q : Exit → Act → World → Prop} {rest : List Oper} {o : Oper} {n : Nat} {f : Nat → Value} {w w0 : World} {L : List (Nat × Obj)} {R : List Row} {ρ : Operand → Value}
theorem v_nilCk {x : Operand} {a : Addr} (ho : o.op = .nilCheck x) (hx : ρ x = .pointer (some a)) : (execOp ρ o).run P w = .ok (.value (.pointer (some a))) w := by
  unfold execOp; rw [ho]
  simp [hx]
theorem ret_cell {fn : Func} {R : Value → World → Prop} {t T ty b : Nat} {l : List Value} {fr : Nat × Nat} {d : TypeDesc} (hr : fn.results = #[.cell t ty]) (hv : ev n f (.tmp t) = .pointer (some ⟨b, 0, none⟩)) (hb : w.heap[b]? = some (.cells l.toArray T fr))
    (hu : P.underlying ty = some d) (hdd : (match d with | .struct _ | .array _ _ => true | _ => false) = true) (hs : (P.info? ty).map (·.size) = some l.length) (h : R (.agg l.toArray) w) : bodyPost P fn (fun e w' => ∃ v, e = .returned v ∧ R v w') .ret (St n f) w := by
  refine ⟨rfl, .agg l.toArray, ?_, _, rfl, h⟩
  have : (St n f).tmps.getD t undef = .pointer (some ⟨b, 0, none⟩) := by rw [← hv, ← eval_St]; rfl
  exact results_cell_row hr _ w b T l.toArray fr d this hb hu hdd (by simpa using hs)
theorem ret_no {fn : Func} {T : Value → World → Prop} {e : Exit} (he : e = .ret ∨ e = .normal) (hr : fn.results = #[]) (h : T (.tuple #[]) w) : bodyPost P fn (fun e w' => ∃ v, e = .returned v ∧ T v w') e (St n f) w := by
  rcases he with rfl | rfl <;> exact ⟨rfl, _, results_none hr _ _ _, _, rfl, h⟩
end
end Go.Dk
end
section
set_option linter.unusedVariables false
namespace Go.Dk
open Go Go.RowKit Go.Lib
theorem run_storeCells_atB (P : Program) (g o : Nat) (t : TypeId) (fz : Nat × Nat) : ∀ (vs : List Value) (i : Nat) (cur : Array Value) (w : World), w.heap[g]? = some (.cells cur t fz) → (o + i + vs.length ≤ fz.1 ∨ fz.2 = 0) → o + i + vs.length ≤ cur.size → (∀ v ∈ vs, v.oneCell' = true) →
    (storeCells ⟨g, o, none⟩ vs i).run P w = .ok () (w.setRow g (cur.toList.take (o + i) ++ vs ++ cur.toList.drop (o + i + vs.length)).toArray)
  | [], i, cur, w, hg, _, _, _ => by
    simp only [storeCells, List.append_nil, List.length_nil, Nat.add_zero, List.take_append_drop, Array.toArray_toList]
    rw [setRow_self w g cur t fz hg]
    rfl
  | v :: rest, i, cur, w, hg, hfz, hl, h1 => by
    have hi : o + i < cur.size := by simp at hl; omega
    have hadd : (⟨g, o, none⟩ : Addr).add i = ⟨g, o + i, none⟩ := add_addr ..
    have hcell : w.cell? ⟨g, o + i, none⟩ = some cur[o + i] := by simp [World.cell?, hg, hi]
    have hfro : w.frozen? ⟨g, o + i, none⟩ = false := by
      obtain ⟨lo, hi'⟩ := fz
      simp only [World.frozen?, hg, Bool.and_eq_false_iff, decide_eq_false_iff_not]
      simp only [List.length_cons] at hfz
      omega
    have hst : (store ((⟨g, o, none⟩ : Addr).add i) v).run P w = .ok () (w.setRow g (cur.setIfInBounds (o + i) v)) := by
      rw [hadd, run_store P w _ v _ (h1 v (by simp)), hcell]
      simp [hfro, setCell_eq_setRow w g (o + i) cur t fz v hg]
    have ih := run_storeCells_atB P g o t fz rest (i + 1) (cur.setIfInBounds (o + i) v) (w.setRow g (cur.setIfInBounds (o + i) v)) (setRow_heap w g cur _ t _ hg) (by simp only [List.length_cons] at hfz; omega) (by simp at hl ⊢; omega) (fun x hx => h1 x (by simp [hx]))
    simp only [storeCells, Sem.run_bind, hst, Result.andThen_ok, ih, setRow_setRow]
    congr 3
    have e := list_seg_step cur.toList (o + i) v rest (by simp at hl ⊢; omega)
    simpa [Array.toList_setIfInBounds, Nat.add_assoc] using e
def Outs (cur : Array Value) (fz : Nat × Nat) (n cap : Nat) (l : List UInt8) : Prop := cur.size = cap ∧ n = l.length ∧ n ≤ cap ∧ cap ≤ maxLen ∧ cur.toList.take n = l.map bv ∧ (cap ≤ fz.1 ∨ fz.2 = 0)
theorem Outs.row {w0 w : World} {L : List (Nat × Obj)} {R : List Row} {g n cap : Nat} {cur : Array Value} {fz : Nat × Nat} {l : List UInt8} (cx : Cxr w0 w ((g, .cells cur 5 fz) :: L) R) (h : Outs cur fz n cap l) : RowAt w g 0 (l.map bv) := by
  intro j x hj
  obtain ⟨_, h2, _, _, h5, _⟩ := h
  rw [cell_of_row w g (0 + j) cur 5 fz (cx.at 0 rfl)]
  rw [← h5, List.getElem?_take] at hj
  split at hj
  · rw [Nat.zero_add]; simpa using hj
  · cases hj
theorem Cxr.addOwn {w0 w : World} {L : List (Nat × Obj)} {R : List Row} {b : Nat} {o : Obj} (h : Cxr w0 w L R) (hb : w.heap[b]? = some o) (hL : ∀ p ∈ L, p.1 ≠ b) (h0 : w0.heap.size ≤ b) (hR : ∀ r ∈ R, ∀ q, r.v.ownBlock = some q → q ≠ b) : Cxr w0 w ((b, o) :: L) R := by
  refine ⟨h.ext, ?_, ?_, ?_, h.rows, ?_, h.pw⟩
  · intro p hp
    rcases List.mem_cons.1 hp with rfl | hp
    · exact hb
    · exact h.own p hp
  · intro p hp
    rcases List.mem_cons.1 hp with rfl | hp
    · exact h0
    · exact h.lo p hp
  · rw [List.map_cons, List.nodup_cons]
    refine ⟨fun hm => ?_, h.nd⟩
    obtain ⟨p, hp, e⟩ := List.mem_map.1 hm
    exact hL p hp e
  · intro r hr k hk hm
    rw [List.map_cons, List.mem_cons] at hm
    rcases hm with e | hm
    · exact hR r hr k hk e
    · exact h.off r hr k hk hm
section
variable {P : Program} {ops : Array Oper} {Q : Exit → Act → World → Prop} {rest : List Oper} {o : Oper} {n : Nat} {f : Nat → Value} {w w0 : World} {L : List (Nat × Obj)} {R : List Row}
theorem s_s2b {d : Nat} {s t : TypeId} {x : Operand} {u : TypeDesc} {l : List UInt8} (cx : Cxr w0 w L R) (hl : l.length ≤ 140737488355328) (hs : P.underlying s = some u) (ht : P.underlying t = some (.slice 5)) (he : P.underlying 5 = some (.int .u8))
    (hg : o.guard = none) (hd : o.dst = some d) (ho : o.op = .convert s t x) (hx : ev n f x = .string (bs l))
    (h : ∀ g cur fz cap w', Cxr w0 w' ((g, .cells cur 5 fz) :: L) R → Outs cur fz l.length cap l → wpList P ops Q rest (St n (upd f d (.slice (some ⟨g, 0, none⟩) l.length cap))) w') : wpList P ops Q (o :: rest) (St n f) w := by
  have hrun := Lib.run_convert_string_bytes (P := P) w s t 5 (bs l) hs ht he
  rw [bs_size] at hrun
  have hge := grownCap_ge w l.length 0 5
  have hcm : grownCap w l.length 0 5 ≤ maxLen := grownCap_le_maxLen w l.length 0 5 (by unfold maxLen; omega)
  have hsz : (Lib.bytesCells w 5 (bs l)).size = grownCap w l.length 0 5 := by
    unfold Lib.bytesCells
    simp only [Array.size_append, Array.size_map, Array.size_replicate, bs_size]
    have : (bs l).data.size = l.length := by simp [bs]
    omega
  refine s_new (w' := Lib.bytesWorld w 5 (bs l)) (v := .slice (some ⟨w.heap.size, 0, none⟩) l.length (grownCap w l.length 0 5)) hg hd ?_ (h w.heap.size (Lib.bytesCells w 5 (bs l)) ((Lib.bytesCells w 5 (bs l)).size, (Lib.bytesCells w 5 (bs l)).size + 1) _ _ ?_ ⟨hsz, rfl, hge, hcm, ?_, .inl ?_⟩)
  · unfold execOp; rw [ho]; simp [hx, hrun]
  · have hb : Below w.heap.size w (Lib.bytesWorld w 5 (bs l)) := ⟨rfl, rfl, rfl, by rw [Lib.bytesWorld_size]; omega, fun j hj => Lib.bytesWorld_at_old w 5 (bs l) j hj⟩
    exact (cx.call hb).addOwn (Lib.bytesWorld_at_new w 5 (bs l)) (fun p hp => by have := cx.lt p hp; omega) cx.ext.size (fun r hr q hq => by have := ((cx.rows r hr).lt q hq).2; omega)
  · unfold Lib.bytesCells
    rw [Array.toList_append]
    have e : (Array.map (fun b : UInt8 => Value.int .u8 b.toNat) (bs l).data).toList = l.map bv := by simp [bs, bv]
    rw [e]
    have : (l.map bv).length = l.length := by simp
    rw [← this, List.take_left]
  · show grownCap w l.length 0 5 ≤ (Lib.bytesCells w 5 (bs l)).size
    rw [hsz]
    exact Nat.le_refl _
theorem s_appL {d : Nat} {t u : TypeId} {x y : Operand} {g m cap : Nat} {cur : Array Value} {fz : Nat × Nat} {l a : List UInt8} (cx : Cxr w0 w ((g, .cells cur 5 fz) :: L) R) (ho5 : Outs cur fz m cap l) (ei : EI8 P 5) (hl : m + a.length ≤ 140737488355328) (ht : P.underlying t = some (.slice 5)) (hu : P.underlying u = some .string)
    (hg : o.guard = none) (hd : o.dst = some d) (ho : o.op = .call { callee := .builtin .append, args := #[x, y], argTypes := #[t, u] }) (hs : ev n f x = .slice (some ⟨g, 0, none⟩) m cap) (hx : ev n f y = .string (bs a))
    (h : ∀ g cur fz cap w', Cxr w0 w' ((g, .cells cur 5 fz) :: L) R → Outs cur fz (m + a.length) cap (l ++ a) → wpList P ops Q rest (St n (upd f d (.slice (some ⟨g, 0, none⟩) (m + a.length) cap))) w') : wpList P ops Q (o :: rest) (St n f) w := by
  obtain ⟨i, hi, hz, hsz, hby⟩ := ei
  obtain ⟨h1, h2, h3, h4, h5, h6⟩ := ho5
  have hheap := cx.at 0 rfl
  have hsa : (bs a).size = a.length := bs_size a
  have hta : (strCells (bs a)).length = a.length := by rw [cells_bs]; simp
  by_cases hroom : m + a.length ≤ cap
  · have hf := run_firstCells_string (P := P) w 1 (bs a)
    rw [hsa] at hf
    have hst := run_storeCells_atB P g m 5 fz (strCells (bs a)) 0 cur w hheap (by rw [hta]; omega) (by rw [hta]; omega) (strCells_oneCell (bs a))
    simp only [Nat.add_zero, hta] at hst
    have hrun : (Builtin.append_ #[t, u] o.type #[.slice (some ⟨g, 0, none⟩) m cap, .string (bs a)]).run P w = .ok (.slice (some ⟨g, 0, none⟩) (m + a.length) cap) (w.setRow g (cur.toList.take m ++ strCells (bs a) ++ cur.toList.drop (m + a.length)).toArray) := by
      simp [Builtin.append_, run_underlying ht, run_underlying hu, sizeOf, typeInfo, hi, hsz, Builtin.lenOf, hsa, hroom, hf, Addr.add_lit, hst]
    refine s_new (w' := w.setRow g (cur.toList.take m ++ strCells (bs a) ++ cur.toList.drop (m + a.length)).toArray) (v := .slice (some ⟨g, 0, none⟩) (m + a.length) cap) hg hd ?_ (h g _ fz cap _ (cx.turn 0 rfl rfl rfl rfl (by simp) (setRow_heap w g cur _ 5 fz hheap) fun q _ hne => setRow_other w g q _ hne) ⟨?_, ?_, hroom, h4, ?_, h6⟩)
    · unfold execOp; rw [ho]
      simp [resolve, invoke, builtin, hs, hx, hrun, Result.andThen]
    · simp only [List.size_toArray, List.length_append, List.length_take, List.length_drop, Array.length_toList, hta]; omega
    · rw [h2, List.length_append]
    · have e : m + a.length = (cur.toList.take m ++ strCells (bs a)).length := by
        have hcl : cur.toList.length = cap := h1
        rw [List.length_append, List.length_take, hta, hcl]; omega
      show ((cur.toList.take m ++ strCells (bs a)) ++ cur.toList.drop (m + a.length)).take (m + a.length) = _
      conv => lhs; arg 1; rw [e]
      rw [List.take_left, h5, cells_bs, List.map_append]
  · have holds : ∀ j u, (l.map bv)[j]? = some u → w.cell? ((⟨g, 0, none⟩ : Addr).add j) = some u := fun j u hj => by
      rw [add_addr]
      exact Outs.row cx ⟨h1, h2, h3, h4, h5, h6⟩ j u hj
    have hr := run_append_grow_string (P := P) w t u o.type 5 i (.int .u8 0) ht hu hi hz ⟨g, 0, none⟩ m cap (l.map bv) (by rw [hsz, List.length_map, h2]; omega) holds (bs a) (by rw [hsa]; omega) (by rw [hsa]; omega) (by rw [hby, hsa]; exact growslice_fits (by omega) (by omega))
    rw [hsa] at hr
    have hge := grownCap_ge w (m + a.length) cap 5
    have hcm2 : grownCap w (m + a.length) cap 5 ≤ maxLen := grownCap_le_maxLen w (m + a.length) cap 5 (by unfold maxLen; omega)
    have hcx := (cx.drop 1).draw.alloc (.cells ((l.map bv).toArray ++ (strCells (bs a)).toArray ++ Builtin.zeroCells (Value.int IntKind.u8 0).cells (grownCap w (m + a.length) cap 5 - (m + a.length))) 5)
    refine s_new (w' := w.drew.alloc _) (v := .slice (some ⟨w.heap.size, 0, none⟩) (m + a.length) (grownCap w (m + a.length) cap 5)) hg hd ?_ (h w.heap.size _ (0, 0) _ _ hcx ⟨?_, ?_, hge, hcm2, ?_, .inr rfl⟩)
    · unfold execOp; rw [ho]
      simp [resolve, invoke, builtin, hs, hx, hr, Result.andThen]
    · have hz1 : (Value.int IntKind.u8 0).cells.size = 1 := rfl
      simp only [Array.size_append, List.size_toArray, size_zeroCells, hz1, List.length_map, hta]
      omega
    · rw [h2, List.length_append]
    · have e : m + a.length = ((l.map bv) ++ strCells (bs a)).length := by rw [List.length_append, List.length_map, hta, h2]
      simp only [Array.toList_append]
      conv => lhs; arg 1; rw [e]
      rw [List.take_left, cells_bs, List.map_append]
end
end Go.Dk
end
section
set_option linter.unusedVariables false
namespace Go.Dk
open Go Go.RowKit Go.Lib
theorem bs_inj {a b : List UInt8} (h : bs a = bs b) : a = b := by
  have := congrArg (fun s : ByteArray => s.data.toList) h
  simpa [bs] using this
theorem bs_iff {a b : List UInt8} : bs a = bs b ↔ a = b := ⟨bs_inj, congrArg bs⟩
theorem bs_extract (l : List UInt8) (m n : Nat) : (bs l).extract m n = bs ((l.take n).drop m) := by
  unfold bs
  have e : ∀ a : Array UInt8, (ByteArray.mk a).extract m n = ⟨a.extract m n⟩ := fun a => by
    apply ByteArray.ext
    simp
  rw [e]
  congr 1
  apply Array.toList_inj.1
  simp [List.drop_take]
theorem bs_data (l : List UInt8) : (bs l).data.toList = l := rfl
theorem byteAt_bs (l : List UInt8) (m : Int) : byteAt (bs l) m = ((l.getD m.toNat 0).toNat : Int) := rfl
section
variable {P : Program} {ops : Array Oper} {Q : Exit → Act → World → Prop} {rest : List Oper} {o : Oper} {n : Nat} {f : Nat → Value} {w w0 : World} {L : List (Nat × Obj)} {R : List Row} {ρ : Operand → Value}
theorem v_cutTo {t : TypeId} {x z : Operand} {s : List UInt8} {k : IntKind} {l : Int} (ho : o.op = .slice t x none (some z) none) (hx : ρ x = .string (bs s)) (hz : ρ z = .int k l) (hu : P.underlying t = some .string) (h1 : 0 ≤ l) (h2 : l ≤ s.length) :
    (execOp ρ o).run P w = .ok (.value (.string (bs (s.take l.toNat)))) w := by
  unfold execOp; rw [ho]
  have h3 : l ≤ (bs s).size := by rw [bs_size]; exact h2
  have e := bs_extract s 0 l.toNat
  rw [List.drop_zero] at e
  rw [← e]
  simp [hx, hz, Instr.sliceAt, Instr.slice, Instr.sliceBounds, Instr.sliceBound, asIntOf, run_underlying hu, h1, h3]
theorem v_cutFrom {t : TypeId} {x y : Operand} {s : List UInt8} {k : IntKind} {m : Int} (ho : o.op = .slice t x (some y) none none) (hx : ρ x = .string (bs s)) (hy : ρ y = .int k m) (hu : P.underlying t = some .string) (h1 : 0 ≤ m) (h2 : m ≤ s.length) :
    (execOp ρ o).run P w = .ok (.value (.string (bs (s.drop m.toNat)))) w := by
  unfold execOp; rw [ho]
  have h3 : m ≤ (bs s).size := by rw [bs_size]; exact h2
  have h4 : (0 : Int) ≤ (bs s).size := by omega
  have e := bs_extract s m.toNat (bs s).size
  rw [show s.take (bs s).size = s by rw [bs_size, List.take_length]] at e
  rw [← e]
  simp [hx, hy, Instr.sliceAt, Instr.slice, Instr.sliceBounds, Instr.sliceBound, asIntOf, run_underlying hu, h1, h3, h4]
theorem v_cutMid {t : TypeId} {x y z : Operand} {s : List UInt8} {k k' : IntKind} {m l : Int} (ho : o.op = .slice t x (some y) (some z) none) (hx : ρ x = .string (bs s)) (hy : ρ y = .int k m) (hz : ρ z = .int k' l) (hu : P.underlying t = some .string) (h0 : 0 ≤ m) (h1 : m ≤ l) (h2 : l ≤ s.length) :
    (execOp ρ o).run P w = .ok (.value (.string (bs ((s.take l.toNat).drop m.toNat)))) w := by
  rw [← bs_extract]
  exact v_subStr ho hx hy hz hu h0 h1 (by rw [bs_size]; exact h2)
theorem v_idxB {t : TypeId} {x y : Operand} {s : List UInt8} {k : IntKind} {m : Int} (ho : o.op = .index t x y) (hx : ρ x = .string (bs s)) (hy : ρ y = .int k m) (hu : P.underlying t = some .string) (h0 : 0 ≤ m) (h1 : m < s.length) :
    (execOp ρ o).run P w = .ok (.value (.int .u8 ((s.getD m.toNat 0).toNat : Nat))) w := by
  have := v_idxStr (w := w) ho hx hy hu h0 (by rw [bs_size]; exact h1)
  rw [byteAt_bs] at this
  exact this
theorem v_lenB {x : Operand} {t : TypeId} {s : List UInt8} (ho : o.op = .call { callee := .builtin .len, args := #[x], argTypes := #[t] }) (hx : ρ x = .string (bs s)) (hu : P.underlying t = some .string) :
    (execOp ρ o).run P w = .ok (.value (.int .i64 s.length)) w := by
  have := v_lenString (w := w) ho hx hu
  rw [bs_size] at this
  exact this
theorem v_eqB {t t' : TypeId} {x y : Operand} {s u : List UInt8} (ho : o.op = .binOp .eql t x y t') (hx : ρ x = .string (bs s)) (hy : ρ y = .string (bs u)) :
    (execOp ρ o).run P w = .ok (.value (.bool (decide (s = u)))) w := by
  have := v_strEq (P := P) (w := w) ho hx hy
  rw [this]
  congr 4
  exact propext bs_iff
theorem v_neB {t t' : TypeId} {x y : Operand} {s u : List UInt8} (ho : o.op = .binOp .neq t x y t') (hx : ρ x = .string (bs s)) (hy : ρ y = .string (bs u)) :
    (execOp ρ o).run P w = .ok (.value (.bool (!decide (s = u)))) w := by
  have := v_strNe (P := P) (w := w) ho hx hy
  rw [this]
  congr 5
  exact propext bs_iff
theorem v_fun1 {k : Nat} {x : Operand} {v : Value} (ho : o.op = .makeFunc (.func k) #[] #[x]) (hx : ρ x = v) : (execOp ρ o).run P w = .ok (.value (.func (.func k) #[] #[v])) w := by
  unfold execOp; rw [ho]
  simp [Instr.makeFunc, hx]
theorem s_callv {d k : Nat} {x : Operand} {opd : Array Operand} {ats : Array TypeId} {fn : Func} {args cap : List Value} {T : Value → World → Prop} (hc : Ret P k (args ++ cap) w T) (hf : P.funcs[k]? = some fn) (hb : fn.body.isNone = false) (hn : (fn.name == "runtime.NumGoroutine") = false)
    (hg : o.guard = none) (hd : o.dst = some d) (ho : o.op = .call { callee := .value x, args := opd, argTypes := ats }) (hx : ev n f x = .func (.func k) #[] cap.toArray) (hargs : opd.toList.map (ev n f) = args)
    (h : ∀ v w', T v w' → wpList P ops Q rest (St n (upd f d v)) w') : wpList P ops Q (o :: rest) (St n f) w := by
  refine wpList_plain hg fun K hK => ?_
  have hrun : (execOp (ev n f) o).run P w = .ok (.enter k (args ++ cap).toArray) w := by
    have h1 : fn.name ≠ "runtime.NumGoroutine" := by simpa using hn
    have h2 : ¬ fn.body = none := by intro e; simp [e] at hb
    unfold execOp; rw [ho]
    have e : opd.map (ev n f) = args.toArray := by rw [← hargs]; apply Array.ext'; simp
    simp [resolve, e, hx, Deferred.ofValue, invoke, callFunc, hf, h1, h2]
  unfold Oper.wp
  rw [eval_St, hrun]
  refine Calls.mono hc ?_
  rintro e w' ⟨v, rfl, hv⟩
  show K ((St n f).put o.dst v) w'
  refine hK _ _ ?_
  rw [hd, put_St]
  exact h v w' hv
theorem v_nilErr {t t' : TypeId} {x : Operand} {ms : Array (String × TypeId)} (hu : P.underlying t = some (.interface ms)) (ho : o.op = .binOp .eql t x (.const .nilIface) t') (hx : ρ x = .nilIface) (hc : ρ (.const .nilIface) = .nilIface) : (execOp ρ o).run P w = .ok (.value (.bool true)) w := by
  unfold execOp; rw [ho]
  have h : (binOp .eql t .nilIface .nilIface).run P w = .ok (.bool true) w := by
    have h : (Op.equalIn 10000 t .nilIface .nilIface).run P w = .ok true w := by
      unfold Op.equalIn
      simp [run_underlying hu]
    simp [binOp, Op.equal, Op.maxDepth, h]
  simp [hx, hc, eqGuard_nil_constR, h]
theorem v_nilErrN {t t' : TypeId} {x : Operand} {ms : Array (String × TypeId)} (hu : P.underlying t = some (.interface ms)) (ho : o.op = .binOp .neq t x (.const .nilIface) t') (hx : ρ x = .nilIface) (hc : ρ (.const .nilIface) = .nilIface) : (execOp ρ o).run P w = .ok (.value (.bool false)) w := by
  unfold execOp; rw [ho]
  have h : (binOp .neq t .nilIface .nilIface).run P w = .ok (.bool false) w := by
    have h : (Op.equalIn 10000 t .nilIface .nilIface).run P w = .ok true w := by
      unfold Op.equalIn
      simp [run_underlying hu]
    simp [binOp, Op.equal, Op.maxDepth, h]
  simp [hx, hc, eqGuard_nil_constR, h]
end
end Go.Dk
end
section
set_option linter.unusedVariables false
namespace Go.Dk
open Go Go.RowKit Go.Lib
section
variable {P : Program} {o : Oper} {n : Nat} {w w0 : World} {L : List (Nat × Obj)} {R : List Row} {ρ : Operand → Value}
theorem v_b2sNil {s t e : TypeId} {x : Operand} (ho : o.op = .convert s t x) (hs : P.underlying s = some (.slice e)) (he : P.underlying e = some (.int .u8)) (ht : P.underlying t = some .string) (hx : ρ x = .slice none 0 0) : (execOp ρ o).run P w = .ok (.value (.string (bs []))) w := by
  unfold execOp; rw [ho]
  have e2 : bs [] = ByteArray.empty := rfl
  rw [e2]
  simp [hx, convert, run_underlying hs, run_underlying ht, run_underlying he, Conv.bytesToString]
theorem v_rowStr {s t e : TypeId} {x : Operand} {v : Value} {m : Nat} {l : List UInt8} (cx : Cxr w0 w L (⟨5, 1, v, m, l.map bv⟩ :: R)) (ho : o.op = .convert s t x) (hs : P.underlying s = some (.slice e)) (he : P.underlying e = some (.int .u8)) (ht : P.underlying t = some .string) (hx : ρ x = v) : (execOp ρ o).run P w = .ok (.value (.string (bs l))) w := by
  have hrow := cx.rows _ (List.mem_cons_self ..)
  simp only at hrow
  have hm : m = l.length := by have := hrow.1; simp at this; omega
  rcases Nat.eq_zero_or_pos m with h0 | h0
  · have hl : l = [] := List.eq_nil_of_length_eq_zero (by omega)
    subst hl
    rcases hrow.2 with ⟨rfl, h2⟩ | ⟨g, cap, cur, rfl, h3⟩
    · exact v_b2sNil ho hs he ht hx
    · have h4 := v_b2s (P := P) (w := w) (ns := []) (m := m) ho hs he ht (b := g) (off := 0) (c := cap) (fun j y hj => by simp at hj) (by simp; omega) hx
      exact h4
  · obtain ⟨g, c, rfl, hr⟩ := cx.bytes hm rfl h0
    have h4 := v_b2s (P := P) (w := w) (ns := l.map fun x : UInt8 => (x.toNat : Int)) (m := m) ho hs he ht (by rw [List.map_map]; exact hr) (by rw [List.length_map]; omega) hx
    rw [strOf_bs] at h4
    exact h4
end
end Go.Dk
end
section
set_option linter.unusedSimpArgs false
set_option linter.unusedVariables false
namespace Go.Proofs.YthlkmblljanfmaaGreatDoor
open Go Go.Dk Go.RowKit Go.Lib
attribute [local irreducible] Go.wpList Go.Code.wp Go.bodyPost Go.wpStill Go.wpQuiet
theorem sz48 : (Tryz.prog.info? 48).map (·.size) = some 9 := by kernel_rfl
theorem z48 : Zero Tryz.prog 48 [.string ByteArray.empty, .string ByteArray.empty, .string ByteArray.empty, .string ByteArray.empty, .string ByteArray.empty, .string ByteArray.empty, .string ByteArray.empty, .string ByteArray.empty, .string ByteArray.empty] := zero_of (v := .agg #[.string ByteArray.empty, .string ByteArray.empty, .string ByteArray.empty, .string ByteArray.empty, .string ByteArray.empty, .string ByteArray.empty, .string ByteArray.empty, .string ByteArray.empty, .string ByteArray.empty]) (by kernel_rfl) rfl
set_option maxHeartbeats 4000000 in
set_option maxRecDepth 10000 in
theorem c7 (v : Value) (l : List Lss) (w0 : World) (hv : Lsr w0 v l) (hg : ∀ x ∈ l, GdL x) (hl : l.length ≤ 40) : Fc Tryz.prog 7 [v] w0 (fun u _ => u = .string (bs (repT l))) := by
  obtain ⟨a, c, b, o, rfl, ha, hr⟩ := hv.form
  refine ret_enter Tryz.func7 rfl Tryz.ntmps7 rfl ?_
  have cx := Ctx.start w0
  refine wp_seq ?_
  refine wp_region_lit ?_
  refine s_val rfl rfl (v_assign rfl rfl) ?_
  refine wpList_nil ?_
  refine wp_seq ?_
  refine wp_region_lit ?_
  refine s_bsl9 cx Tryz.underlying51 sz9 z9 rfl rfl rfl rfl rfl rfl rfl rfl rfl rfl rfl rfl rfl rfl rfl rfl rfl rfl rfl rfl rfl ?_; intro b7 w cx hb7 hw7
  replace cx : Ctx w0 w [(b7, .cells wordsV.toArray 9)] := cx
  refine s_val rfl rfl (v_assign rfl rfl) ?_
  refine wpList_nil ?_
  refine wp_seq ?_
  refine wp_region_lit ?_
  refine s_val rfl rfl (v_assign rfl rfl) ?_
  refine wpList_nil ?_
  refine wp_seq ?_
  refine wp_seq ?_
  refine wp_region_lit ?_
  refine s_val rfl rfl (v_assign rfl rfl) ?_
  refine wpList_nil ?_
  refine wp_block ?_
  refine w_loop (fun k f w1 => ∃ (i b7 : Nat), k + i = l.length ∧ f 0 = .slice a l.length c ∧ f 3 = .slice (some ⟨b7, 0, none⟩) 9 9 ∧ f 4 = .string (bs (repT (l.take i))) ∧ f 5 = .int .i64 i ∧ Ctx w0 w1 [(b7, .cells wordsV.toArray 9)]) (l.length) ?_ ?_
  · skip
    exact ⟨0, _, by omega, rfl, rfl, rfl, rfl, cx⟩
  intro gk4 f w hJ
  obtain ⟨i, b7, hk, hs0, hs3, hs4, hs5, cx⟩ := hJ
  refine wp_seq ?_
  refine wp_seq ?_
  refine wp_region_lit ?_
  refine s_val rfl rfl (v_move rfl hs5) ?_
  refine s_val rfl rfl (v_move rfl hs0) ?_
  refine s_val rfl rfl (v_lenSlice rfl rfl Tryz.underlying22) ?_
  refine s_val rfl rfl (v_cmp rfl rfl rfl rfl) ?_
  refine wpList_nil ?_
  refine c_split rfl (fun hc11 => ?_) (fun hc11 => ?_)
  · skip
    try simp only [Bool.and_eq_true, Bool.or_eq_true, Bool.and_eq_false_iff, Bool.or_eq_false_iff, Bool.not_eq_true', Bool.not_eq_false', decide_eq_true_eq, decide_eq_false_iff_not, beq_iff_eq, beq_eq_false_iff_ne, bne_iff_ne, bne_eq_false_iff_eq, ne_eq, Classical.not_not] at hc11
    obtain ⟨x, hx⟩ : ∃ x, l[i]? = some x := ⟨l[i]'(by omega), List.getElem?_eq_getElem _⟩
    obtain ⟨p, hrw, hp⟩ := hr i x hx
    obtain ⟨pa, pc, pb, po, rfl, _, _⟩ := id hp.form
    have hgx := hg x (List.mem_of_getElem? hx)
    have hrl := rep_len (l := l.take i) (fun y hy => hg y (List.mem_of_mem_take hy))
    rw [List.length_take] at hrl
    have hpl := pathT_len hgx.2
    have h48 := hgx.1
    have hkl := knd_lt x.kind
    have hwl := wrds_len _ hkl
    obtain rfl := ha (by omega)
    refine wp_skip ?_
    refine wp_seq ?_
    refine wp_block ?_
    refine wp_seq ?_
    refine wp_region_lit ?_
    refine s_val rfl rfl (v_move rfl hs0) ?_
    refine s_val rfl rfl (v_move rfl hs5) ?_
    refine s_val rfl rfl (v_ia Tryz.underlying22 sz27 rfl rfl rfl (by omega) (by omega)) ?_
    refine s_val rfl rfl (v_fa fa27_0 rfl rfl) ?_
    refine s_val rfl rfl (v_load1 rfl rfl Tryz.underlying3 rfl ((hrw.up cx.ext).cell 0 rfl)) ?_
    refine s_val rfl rfl (v_assign rfl rfl) ?_
    refine wpList_nil ?_
    refine w_cut (fun f w1 => ∃ b7 : Nat, f 0 = .slice (some ⟨b, o, none⟩) l.length c ∧ f 3 = .slice (some ⟨b7, 0, none⟩) 9 9 ∧ f 4 = .string (bs (repT (l.take i))) ∧ f 5 = .int .i64 i ∧ f 6 = .int .i64 (knd x.kind : Nat) ∧ Ctx w0 w1 [(b7, .cells wordsV.toArray 9)]) ?_ ?_
    · skip
      refine wp_seq ?_
      refine wp_region_lit ?_
      refine s_val rfl rfl (v_move rfl rfl) ?_
      refine s_val rfl rfl (v_cmp rfl rfl rfl rfl) ?_
      refine s_val rfl rfl (v_move rfl rfl) ?_
      refine s_gval rfl rfl rfl (by first | exact w_ff rfl | exact w_gf rfl) (fun hc => v_move rfl (by first | exact gve hc rfl | exact gve (and_l hc) rfl | exact gve (and_l (and_l hc)) rfl | rfl)) ?_
      refine s_gval rfl rfl rfl (by first | exact w_ff rfl | exact w_gf rfl) (fun hc => v_cmp rfl (by first | exact gve hc rfl | exact gve (and_l hc) rfl | exact gve (and_l (and_l hc)) rfl | rfl) rfl rfl) ?_
      refine s_val rfl rfl (v_or rfl rfl rfl rfl) ?_
      refine wpList_nil ?_
      refine c_split rfl (fun hc24 => ?_) (fun hc24 => ?_)
      · skip
        try simp only [Bool.and_eq_true, Bool.or_eq_true, Bool.and_eq_false_iff, Bool.or_eq_false_iff, Bool.not_eq_true', Bool.not_eq_false', decide_eq_true_eq, decide_eq_false_iff_not, beq_iff_eq, beq_eq_false_iff_ne, bne_iff_ne, bne_eq_false_iff_eq, ne_eq, Classical.not_not] at hc24
        refine wp_region_lit ?_
        refine s_val rfl rfl (v_assign rfl rfl) ?_
        refine wpList_nil ?_
        exact ⟨_, rfl, b7, hs0, hs3, hs4, hs5, by first | exact congrArg (fun z : Nat => Value.int .i64 (z : Int)) (knd_out hc24).symm | exact congrArg (Value.int .i64) (knd_in (by omega)).symm, cx⟩
      · skip
        try simp only [Bool.and_eq_true, Bool.or_eq_true, Bool.and_eq_false_iff, Bool.or_eq_false_iff, Bool.not_eq_true', Bool.not_eq_false', decide_eq_true_eq, decide_eq_false_iff_not, beq_iff_eq, beq_eq_false_iff_ne, bne_iff_ne, bne_eq_false_iff_eq, ne_eq, Classical.not_not] at hc24
        refine wp_skip ?_
        exact ⟨_, rfl, b7, hs0, hs3, hs4, hs5, by first | exact congrArg (fun z : Nat => Value.int .i64 (z : Int)) (knd_out hc24).symm | exact congrArg (Value.int .i64) (knd_in (by omega)).symm, cx⟩
    intro f w hJ
    obtain ⟨b7, hs0, hs3, hs4, hs5, hs6, cx⟩ := hJ
    refine w_ord cx (cx.pick1 0 rfl) mixed [(0, 25), (1, 26), (2, 27), (3, 28), (4, 29), (5, 30), (9, 34), (10, 35), (11, 36), (12, 37)] #[true, true, true, true, true, true, false, false, false, true, true, true, true, false, false, false] (by kernel_rfl) (by kernel_rfl) (by kernel_rfl) (by kernel_rfl) ?_
    refine pu_one rfl (wnt_none rfl) (fun w cx => v_move rfl hs4) ?_
    refine pu_one rfl (wnt_none rfl) (fun w cx => v_move rfl hs0) ?_
    refine pu_one rfl (wnt_none rfl) (fun w cx => v_move rfl hs5) ?_
    refine pu_one rfl (wnt_none rfl) (fun w cx => v_ia Tryz.underlying22 sz27 rfl rfl rfl (by omega) (by omega)) ?_
    refine pu_one rfl (wnt_none rfl) (fun w cx => v_fa fa27_1 rfl rfl) ?_
    refine pu_one rfl (wnt_none rfl) (fun w cx => v_load1 rfl rfl Tryz.underlying25 rfl ((hrw.up cx.ext).cell 1 rfl)) ?_
    refine pu_one rfl (wnt_none rfl) (fun w cx => v_move rfl hs3) ?_
    refine pu_one rfl (wnt_none rfl) (fun w cx => v_move rfl hs6) ?_
    refine pu_one rfl (wnt_none rfl) (fun w cx => v_ia Tryz.underlying51 sz9 rfl rfl rfl (by omega) (by omega)) ?_
    refine pu_one rfl (wnt_none rfl) (fun w cx => v_load1 rfl rfl Tryz.underlying9 rfl (words_cell (i := 0) cx rfl hkl)) ?_
    refine pu_nil ?_; intro w cx hwD9
    refine x_one (i := 6) (by kernel_rfl) rfl ?_
    refine s_fn cx (c13 _ _ _ (hp.up cx.ext) hgx.2 hgx.1) Tryz.func13 rfl rfl rfl rfl rfl rfl ?_; intro q31 w cx hw31 hp31
    subst hp31
    refine x_next ⟨.inl (cx.pick1 0 rfl), ?_⟩
    refine x_one (i := 7) (by kernel_rfl) rfl ?_
    refine s_val rfl rfl (v_strAddB (a := (repT (l.take i))) (b := (pathT x.path)) rfl rfl rfl (by (try simp only [List.length_append, List.length_cons, List.length_nil]); omega)) ?_
    refine x_next ⟨.inl (cx.pick1 0 rfl), ?_⟩
    refine x_one (i := 8) (by kernel_rfl) rfl ?_
    refine s_val rfl rfl (v_strAddB (a := ((repT (l.take i)) ++ (pathT x.path))) (b := [32]) rfl rfl rfl (by (try simp only [List.length_append, List.length_cons, List.length_nil]); omega)) ?_
    refine x_next ⟨.inl (cx.pick1 0 rfl), ?_⟩
    refine x_one (i := 13) (by kernel_rfl) rfl ?_
    refine s_val rfl rfl (v_strAddB (a := (((repT (l.take i)) ++ (pathT x.path)) ++ [32])) (b := (wrds.getD (knd x.kind) [])) rfl rfl rfl (by (try simp only [List.length_append, List.length_cons, List.length_nil]); omega)) ?_
    refine x_next ⟨.inr (by kernel_rfl), ?_⟩
    refine x_one (i := 14) (by kernel_rfl) rfl ?_
    refine s_val rfl rfl (v_strAddB (a := ((((repT (l.take i)) ++ (pathT x.path)) ++ [32]) ++ (wrds.getD (knd x.kind) []))) (b := [10]) rfl rfl rfl (by (try simp only [List.length_append, List.length_cons, List.length_nil]); omega)) ?_
    refine x_next ⟨.inr (by kernel_rfl), ?_⟩
    refine x_one (i := 15) (by kernel_rfl) rfl ?_
    refine s_val rfl rfl (v_assign rfl rfl) ?_
    refine x_next ⟨.inr (by kernel_rfl), ?_⟩
    refine x_done (by kernel_rfl) ?_
    refine wp_region_lit ?_
    refine s_val rfl rfl (v_move rfl hs5) ?_
    refine s_val rfl rfl (v_add rfl rfl rfl (by omega) (by omega)) ?_
    refine s_val rfl rfl (v_assign rfl rfl) ?_
    refine wpList_nil ?_
    exact ⟨gk4 - 1, _, by omega, rfl, i + 1, b7, by omega, hs0, hs3, congrArg (fun l => Value.string (bs l)) ((rep_more hx).trans (by simp only [List.append_assoc])).symm, rfl, cx⟩
  · skip
    try simp only [Bool.and_eq_true, Bool.or_eq_true, Bool.and_eq_false_iff, Bool.or_eq_false_iff, Bool.not_eq_true', Bool.not_eq_false', decide_eq_true_eq, decide_eq_false_iff_not, beq_iff_eq, beq_eq_false_iff_ne, bne_iff_ne, bne_eq_false_iff_eq, ne_eq, Classical.not_not] at hc11
    refine wp_exit ?_
    refine wp_seq ?_
    refine wp_region_lit ?_
    refine s_val rfl rfl (v_move rfl hs4) ?_
    refine s_val rfl rfl (v_assign rfl rfl) ?_
    refine wpList_nil ?_
    refine wp_ret ?_
    refine ret_tmp Tryz.results7 rfl ?_
    refine ⟨cx.ext, congrArg (fun l => Value.string (bs l)) ?_⟩
    have hi : i = l.length := by omega
    subst hi
    rw [List.take_length]
theorem bdW (w : World) : (Instr.build 48 ([(0, .string ⟨#[63]⟩), (1, .string ⟨#[99, 111, 109, 109, 101, 110, 116]⟩), (2, .string ⟨#[116, 105, 109, 101]⟩), (3, .string ⟨#[98, 121, 116, 101, 115]⟩), (4, .string ⟨#[110, 117, 108, 108]⟩), (5, .string ⟨#[110, 101, 115, 116]⟩), (6, .string ⟨#[115, 104, 97, 112, 101]⟩), (7, .string ⟨#[110, 117, 109, 98, 101, 114]⟩), (8, .string ⟨#[97, 108, 105, 97, 115]⟩)] : List (Nat × Value)).toArray).run Tryz.prog w = .ok (.agg wordsV.toArray) w := by
  go_simp
  try rfl
set_option maxHeartbeats 4000000 in
set_option maxRecDepth 10000 in
theorem c6 (v : Value) (l : List Lss) (w0 : World) (hv : Lsr w0 v l) (hg : ∀ x ∈ l, GdL x) (hl : l.length ≤ 40) (ht : Tabs w0) : Fc Tryz.prog 6 [v] w0 (fun u _ => u = .string (bs (repT l))) := by
  obtain ⟨a, c, b, o, rfl, ha, hr⟩ := hv.form
  refine ret_enter Tryz.func6 rfl Tryz.ntmps6 rfl ?_
  have cx := Ctx.start w0
  refine wp_seq ?_
  refine wp_region_lit ?_
  refine s_val rfl rfl (v_assign rfl rfl) ?_
  refine wpList_nil ?_
  refine wp_seq ?_
  refine wp_region_lit ?_
  refine s_val rfl rfl (v_build (qs := [(0, .string ⟨#[63]⟩), (1, .string ⟨#[99, 111, 109, 109, 101, 110, 116]⟩), (2, .string ⟨#[116, 105, 109, 101]⟩), (3, .string ⟨#[98, 121, 116, 101, 115]⟩), (4, .string ⟨#[110, 117, 108, 108]⟩), (5, .string ⟨#[110, 101, 115, 116]⟩), (6, .string ⟨#[115, 104, 97, 112, 101]⟩), (7, .string ⟨#[110, 117, 109, 98, 101, 114]⟩), (8, .string ⟨#[97, 108, 105, 97, 115]⟩)]) (bdW) rfl rfl) ?_
  refine s_alloc cx z48 rfl rfl rfl ?_; intro b3 w cx hb3 hw3
  refine s_storeAll cx 0 rfl rfl rfl rfl rfl rfl sz48 rfl rfl ?_; intro w cx hwS1
  refine wpList_nil ?_
  refine wp_seq ?_
  refine wp_region_lit ?_
  refine s_val rfl rfl (v_assign rfl rfl) ?_
  refine wpList_nil ?_
  refine wp_seq ?_
  refine wp_seq ?_
  refine wp_region_lit ?_
  replace cx := cx.nilRow 5 1
  refine s_val rfl rfl (v_move rfl rfl) ?_
  refine s_val rfl rfl (v_lenSlice rfl rfl Tryz.underlying22) ?_
  refine s_val rfl rfl (v_move rfl rfl) ?_
  refine wpList_nil ?_
  refine wp_block ?_
  refine w_loop (fun k f w1 => ∃ (i b3 : Nat) (v : Value), k + i = l.length ∧ f 9 = .slice a l.length c ∧ f 10 = .int .i64 l.length ∧ f 11 = .int .i64 i ∧ f 3 = .pointer (some ⟨b3, 0, none⟩) ∧ f 4 = v ∧ Cxr w0 w1 [(b3, .cells wordsV.toArray 48)] [⟨5, 1, v, (repT (l.take i)).length, (repT (l.take i)).map bv⟩]) (l.length) ?_ ?_
  · skip
    exact ⟨0, _, _, by omega, rfl, rfl, rfl, rfl, rfl, cx.row_eq rfl rfl⟩
  intro gk4 f w hJ
  obtain ⟨i, b3, v, hk, hs9, hs10, hs11, hs3, hs4, cx⟩ := hJ
  refine wp_seq ?_
  refine wp_region_lit ?_
  refine s_val rfl rfl (v_cmp rfl hs11 hs10 rfl) ?_
  refine wpList_nil ?_
  refine wp_seq ?_
  refine c_split rfl (fun hc12 => ?_) (fun hc12 => ?_)
  · skip
    try simp only [Bool.and_eq_true, Bool.or_eq_true, Bool.and_eq_false_iff, Bool.or_eq_false_iff, Bool.not_eq_true', Bool.not_eq_false', decide_eq_true_eq, decide_eq_false_iff_not, beq_iff_eq, beq_eq_false_iff_ne, bne_iff_ne, bne_eq_false_iff_eq, ne_eq, Classical.not_not] at hc12
    obtain ⟨x, hx⟩ : ∃ x, l[i]? = some x := ⟨l[i]'(by omega), List.getElem?_eq_getElem _⟩
    obtain ⟨p, hrw, hp⟩ := hr i x hx
    obtain ⟨pa, pc, pb, po, rfl, _, _⟩ := id hp.form
    have hgx := hg x (List.mem_of_getElem? hx)
    have hrl := rep_len (l := l.take i) (fun y hy => hg y (List.mem_of_mem_take hy))
    rw [List.length_take] at hrl
    have hpl := pathT_len hgx.2
    have h48 := hgx.1
    have hkl := knd_lt x.kind
    have hwl := wrds_len _ hkl
    obtain rfl := ha (by omega)
    refine wp_skip ?_
    refine wp_seq ?_
    refine wp_block ?_
    refine wp_seq ?_
    refine wp_region_lit ?_
    refine s_val rfl rfl (v_ia Tryz.underlying22 sz27 rfl hs9 hs11 (by omega) (by omega)) ?_
    refine s_val rfl rfl (v_load rfl rfl Tryz.underlying27 rfl sz27 (hrw.up cx.ext) rfl) ?_
    refine s_alloc cx z27 rfl rfl rfl ?_; intro b6 w cx hb6 hw6
    refine s_storeAll cx 0 rfl rfl rfl rfl rfl rfl sz27 rfl rfl ?_; intro w cx hwS5
    refine wpList_nil ?_
    refine wp_seq ?_
    refine wp_region_lit ?_
    refine s_val rfl rfl (v_fa fa27_0 rfl rfl) ?_
    refine s_val rfl rfl (v_load1 rfl rfl Tryz.underlying3 rfl (cx.cell 0 rfl rfl)) ?_
    refine s_val rfl rfl (v_assign rfl rfl) ?_
    refine wpList_nil ?_
    refine w_cut (fun f w1 => ∃ (b6 b3 : Nat) (v : Value), f 9 = .slice (some ⟨b, o, none⟩) l.length c ∧ f 10 = .int .i64 l.length ∧ f 11 = .int .i64 i ∧ f 3 = .pointer (some ⟨b3, 0, none⟩) ∧ f 6 = .pointer (some ⟨b6, 0, none⟩) ∧ f 4 = v ∧ f 7 = .int .i64 (knd x.kind : Nat) ∧ Cxr w0 w1 [(b6, .cells ([.int .i64 x.kind, .slice pa x.path.length pc] : List Value).toArray 27), (b3, .cells wordsV.toArray 48)] [⟨5, 1, v, (repT (l.take i)).length, (repT (l.take i)).map bv⟩]) ?_ ?_
    · skip
      refine wp_seq ?_
      refine wp_region_lit ?_
      refine s_val rfl rfl (v_move rfl rfl) ?_
      refine s_val rfl rfl (v_cmp rfl rfl rfl rfl) ?_
      refine s_val rfl rfl (v_move rfl rfl) ?_
      refine s_gval rfl rfl rfl (by first | exact w_ff rfl | exact w_gf rfl) (fun hc => v_move rfl (by first | exact gve hc rfl | exact gve (and_l hc) rfl | exact gve (and_l (and_l hc)) rfl | rfl)) ?_
      refine s_gval rfl rfl rfl (by first | exact w_ff rfl | exact w_gf rfl) (fun hc => v_cmp rfl (by first | exact gve hc rfl | exact gve (and_l hc) rfl | exact gve (and_l (and_l hc)) rfl | rfl) rfl rfl) ?_
      refine s_val rfl rfl (v_or rfl rfl rfl rfl) ?_
      refine wpList_nil ?_
      refine c_split rfl (fun hc22 => ?_) (fun hc22 => ?_)
      · skip
        try simp only [Bool.and_eq_true, Bool.or_eq_true, Bool.and_eq_false_iff, Bool.or_eq_false_iff, Bool.not_eq_true', Bool.not_eq_false', decide_eq_true_eq, decide_eq_false_iff_not, beq_iff_eq, beq_eq_false_iff_ne, bne_iff_ne, bne_eq_false_iff_eq, ne_eq, Classical.not_not] at hc22
        refine wp_region_lit ?_
        refine s_val rfl rfl (v_assign rfl rfl) ?_
        refine wpList_nil ?_
        exact ⟨_, rfl, _, _, _, hs9, hs10, hs11, hs3, rfl, hs4, by first | exact congrArg (fun z : Nat => Value.int .i64 (z : Int)) (knd_out hc22).symm | exact congrArg (Value.int .i64) (knd_in (by omega)).symm, cx⟩
      · skip
        try simp only [Bool.and_eq_true, Bool.or_eq_true, Bool.and_eq_false_iff, Bool.or_eq_false_iff, Bool.not_eq_true', Bool.not_eq_false', decide_eq_true_eq, decide_eq_false_iff_not, beq_iff_eq, beq_eq_false_iff_ne, bne_iff_ne, bne_eq_false_iff_eq, ne_eq, Classical.not_not] at hc22
        refine wp_skip ?_
        exact ⟨_, rfl, _, _, _, hs9, hs10, hs11, hs3, rfl, hs4, by first | exact congrArg (fun z : Nat => Value.int .i64 (z : Int)) (knd_out hc22).symm | exact congrArg (Value.int .i64) (knd_in (by omega)).symm, cx⟩
    intro f w hJ
    obtain ⟨b6, b3, v, hs9, hs10, hs11, hs3, hs6, hs4, hs7, cx⟩ := hJ
    refine w_ord cx (cx.pick2 0 1 rfl rfl rfl) mixed [(0, 23), (1, 24), (2, 25), (5, 28), (6, 29), (7, 30)] #[true, true, true, false, false, true, true, true, false, false, false, false] (by kernel_rfl) (by kernel_rfl) (by kernel_rfl) (by kernel_rfl) ?_
    refine pu_one rfl (wnt_none rfl) (fun w cx => v_move rfl hs4) ?_
    refine pu_one rfl (wnt_none rfl) (fun w cx => v_fa fa27_1 rfl hs6) ?_
    refine pu_one rfl (wnt_none rfl) (fun w cx => v_load1 rfl rfl Tryz.underlying25 rfl (cx.cell 0 rfl rfl)) ?_
    refine pu_one rfl (wnt_none rfl) (fun w cx => v_move rfl hs7) ?_
    refine pu_one rfl (wnt_none rfl) (fun w cx => v_iaA Tryz.underlying48 sz9 rfl hs3 rfl (by omega) (by omega)) ?_
    refine pu_one rfl (wnt_none rfl) (fun w cx => v_load1 rfl rfl Tryz.underlying9 rfl (words_cell (i := 1) cx rfl hkl)) ?_
    refine pu_nil ?_; intro w cx hwD9
    refine x_one (i := 3) (by kernel_rfl) rfl ?_
    refine s_fn cx (c12 _ _ _ (hp.up cx.ext) hgx.2 hgx.1 (ht.up cx.ext)) Tryz.func12 rfl rfl rfl rfl rfl rfl ?_; intro q26 w cx hw26 hp26
    subst hp26
    refine x_next ⟨.inl (cx.pick2 0 1 rfl rfl rfl), ?_⟩
    refine x_one (i := 4) (by kernel_rfl) rfl ?_
    refine s_val rfl rfl (v_strAddB (a := (pathT x.path)) (b := [32]) rfl rfl rfl (by (try simp only [List.length_append, List.length_cons, List.length_nil]); omega)) ?_
    refine x_next ⟨.inl (cx.pick2 0 1 rfl rfl rfl), ?_⟩
    refine x_one (i := 8) (by kernel_rfl) rfl ?_
    refine s_val rfl rfl (v_strAddB (a := ((pathT x.path) ++ [32])) (b := (wrds.getD (knd x.kind) [])) rfl rfl rfl (by (try simp only [List.length_append, List.length_cons, List.length_nil]); omega)) ?_
    refine x_next ⟨.inl (cx.pick2 0 1 rfl rfl rfl), ?_⟩
    refine x_one (i := 9) (by kernel_rfl) rfl ?_
    refine s_val rfl rfl (v_strAddB (a := (((pathT x.path) ++ [32]) ++ (wrds.getD (knd x.kind) []))) (b := [10]) rfl rfl rfl (by (try simp only [List.length_append, List.length_cons, List.length_nil]); omega)) ?_
    refine x_next ⟨.inl (cx.pick2 0 1 rfl rfl rfl), ?_⟩
    refine x_one (i := 10) (by kernel_rfl) rfl ?_
    refine s_appendB cx ei8 Tryz.underlying49 Tryz.underlying9 rfl rfl rfl rfl rfl (by simp only [List.length_append, List.length_cons, List.length_nil] at hrl ⊢; omega) ?_; intro v33 w cx hgr33
    refine x_next ⟨.inr (by kernel_rfl), ?_⟩
    refine x_one (i := 11) (by kernel_rfl) rfl ?_
    refine s_val rfl rfl (v_assign rfl rfl) ?_
    refine x_next ⟨.inr (by kernel_rfl), ?_⟩
    refine x_done (by kernel_rfl) ?_
    refine wp_region_lit ?_
    refine s_val rfl rfl (v_add rfl hs11 rfl (by omega) (by omega)) ?_
    refine s_val rfl rfl (v_move rfl rfl) ?_
    refine wpList_nil ?_
    refine ⟨gk4 - 1, _, by omega, rfl, i + 1, b3, _, by omega, hs9, hs10, rfl, hs3, rfl, row_more (cx.drop 1) (rep_more hx) ?_ ?_⟩
    · simp only [List.length_append, List.length_cons, List.length_nil] <;> omega
    · rfl
  · skip
    try simp only [Bool.and_eq_true, Bool.or_eq_true, Bool.and_eq_false_iff, Bool.or_eq_false_iff, Bool.not_eq_true', Bool.not_eq_false', decide_eq_true_eq, decide_eq_false_iff_not, beq_iff_eq, beq_eq_false_iff_ne, bne_iff_ne, bne_eq_false_iff_eq, ne_eq, Classical.not_not] at hc12
    refine wp_exit ?_
    refine wp_seq ?_
    refine wp_region_lit ?_
    refine s_val rfl rfl (v_move rfl hs4) ?_
    refine s_val rfl rfl (v_rowStr (l := (repT (l.take i))) cx rfl Tryz.underlying49 Tryz.underlying5 Tryz.underlying9 rfl) ?_
    refine s_val rfl rfl (v_assign rfl rfl) ?_
    refine wpList_nil ?_
    refine wp_ret ?_
    refine ret_tmp Tryz.results6 rfl ?_
    refine ⟨cx.ext, congrArg (fun l => Value.string (bs l)) ?_⟩
    have hi : i = l.length := by omega
    subst hi
    rw [List.take_length]
end Go.Proofs.YthlkmblljanfmaaGreatDoor
end
section
set_option linter.unusedVariables false
namespace Go.Dk
open Go Go.RowKit Go.Lib
theorem v_strSame {P : Program} {o : Oper} {w : World} {ρ : Operand → Value} {t t' : TypeId} {x y : Operand} {s : ByteArray} (ho : o.op = .binOp .eql t x y t') (hx : ρ x = .string s) (hy : ρ y = .string s) : (execOp ρ o).run P w = .ok (.value (.bool true)) w := by
  have h := v_strEq (P := P) (w := w) ho hx hy
  rwa [decide_eq_true rfl] at h
end Go.Dk
end
section
set_option linter.unusedSimpArgs false
set_option linter.unusedVariables false
namespace Go.Proofs.YthlkmblljanfmaaGreatDoor
open Go Go.Dk Go.RowKit Go.Lib
attribute [local irreducible] Go.wpList Go.Code.wp Go.bodyPost Go.wpStill Go.wpQuiet
theorem gd_all {l : List Lss} {i : Nat} (hi : ¬ i < l.length) (h : ∀ x ∈ l.take i, GdP x.path) : ∀ x ∈ l, GdL x := by
  intro x hx
  rw [List.take_of_length_le (by omega)] at h
  have h1 := h x hx
  exact ⟨h1.1, fun s hs => (h1.2 s hs).gds⟩
theorem gd_more {l : List Lss} {i : Nat} {x : Lss} (hx : l[i]? = some x) (h : ∀ x ∈ l.take i, GdP x.path) (h1 : GdP x.path) : ∀ x ∈ l.take (i + 1), GdP x.path := by
  obtain ⟨hi, rfl⟩ := List.getElem?_eq_some_iff.1 hx
  intro y hy
  rw [List.take_succ_eq_append_getElem hi] at hy
  rcases List.mem_append.1 hy with hy | hy
  · exact h y hy
  · obtain rfl := List.mem_singleton.1 hy
    exact h1
set_option maxHeartbeats 4000000 in
set_option maxRecDepth 10000 in
theorem lawT (v : Value) (l : List Lss) (w0 : World) (hv : Lsr w0 v l) (ht : Tabs w0) : Fc Tryz.prog 3 [v] w0 (IsB fun b => b = true) := by
  obtain ⟨a, c, b, o, rfl, ha, hr⟩ := id hv.form
  refine ret_enter Tryz.func3 rfl Tryz.ntmps3 rfl ?_
  have cx := Ctx.start w0
  refine wp_seq ?_
  refine wp_region_lit ?_
  refine s_val rfl rfl (v_assign rfl rfl) ?_
  refine wpList_nil ?_
  refine wp_seq ?_
  refine wp_seq ?_
  refine wp_region_lit ?_
  refine s_val rfl rfl (v_move rfl rfl) ?_
  refine s_val rfl rfl (v_lenSlice rfl rfl Tryz.underlying22) ?_
  refine s_val rfl rfl (v_cmp rfl rfl rfl rfl) ?_
  refine wpList_nil ?_
  refine c_split rfl (fun hc6 => ?_) (fun hc6 => ?_)
  · skip
    try simp only [Bool.and_eq_true, Bool.or_eq_true, Bool.and_eq_false_iff, Bool.or_eq_false_iff, Bool.not_eq_true', Bool.not_eq_false', decide_eq_true_eq, decide_eq_false_iff_not, beq_iff_eq, beq_eq_false_iff_ne, bne_iff_ne, bne_eq_false_iff_eq, ne_eq, Classical.not_not] at hc6
    refine wp_seq ?_
    refine wp_region_lit ?_
    refine s_fnB cx (c4 _) Tryz.func4 rfl rfl rfl rfl rfl rfl ?_; intro q7 w cx hw7 hp7
    refine s_val rfl rfl (v_assign rfl rfl) ?_
    refine wpList_nil ?_
    refine wp_ret ?_
    refine ret_tmp Tryz.results3 rfl ?_
    exact ⟨cx.ext, _, rfl, hp7⟩
  · skip
    try simp only [Bool.and_eq_true, Bool.or_eq_true, Bool.and_eq_false_iff, Bool.or_eq_false_iff, Bool.not_eq_true', Bool.not_eq_false', decide_eq_true_eq, decide_eq_false_iff_not, beq_iff_eq, beq_eq_false_iff_ne, bne_iff_ne, bne_eq_false_iff_eq, ne_eq, Classical.not_not] at hc6
    have hl40 : l.length ≤ 40 := by omega
    refine wp_skip ?_
    refine wp_seq ?_
    refine wp_seq ?_
    refine wp_region_lit ?_
    refine s_val rfl rfl (v_assign rfl rfl) ?_
    refine wpList_nil ?_
    refine wp_block ?_
    refine w_loop (fun k f w1 => ∃ i : Nat, k + i = l.length ∧ f 0 = .slice a l.length c ∧ f 3 = .int .i64 i ∧ (∀ x ∈ l.take i, GdP x.path) ∧ Ctx w0 w1 []) (l.length) ?_ ?_
    · skip
      exact ⟨0, by omega, rfl, rfl, fun x hx => by simp at hx, cx⟩
    intro gk4 f w hJ
    obtain ⟨i, hk, hs0, hs3, hall, cx⟩ := hJ
    refine wp_seq ?_
    refine wp_seq ?_
    refine wp_region_lit ?_
    refine s_val rfl rfl (v_move rfl hs3) ?_
    refine s_val rfl rfl (v_move rfl hs0) ?_
    refine s_val rfl rfl (v_lenSlice rfl rfl Tryz.underlying22) ?_
    refine s_val rfl rfl (v_cmp rfl rfl rfl rfl) ?_
    refine wpList_nil ?_
    refine c_split rfl (fun hc11 => ?_) (fun hc11 => ?_)
    · skip
      try simp only [Bool.and_eq_true, Bool.or_eq_true, Bool.and_eq_false_iff, Bool.or_eq_false_iff, Bool.not_eq_true', Bool.not_eq_false', decide_eq_true_eq, decide_eq_false_iff_not, beq_iff_eq, beq_eq_false_iff_ne, bne_iff_ne, bne_eq_false_iff_eq, ne_eq, Classical.not_not] at hc11
      obtain ⟨x, hx⟩ : ∃ x, l[i]? = some x := ⟨l[i]'(by omega), List.getElem?_eq_getElem _⟩
      obtain ⟨p, hrw, hp⟩ := hr i x hx
      obtain ⟨pa, pc, pb, po, rfl, _, _⟩ := id hp.form
      obtain rfl := ha (by omega)
      refine wp_skip ?_
      refine wp_seq ?_
      refine wp_block ?_
      refine wp_seq ?_
      refine wp_region_lit ?_
      refine s_val rfl rfl (v_move rfl hs0) ?_
      refine s_val rfl rfl (v_move rfl hs3) ?_
      refine s_val rfl rfl (v_ia Tryz.underlying22 sz27 rfl rfl rfl (by omega) (by omega)) ?_
      refine s_val rfl rfl (v_fa fa27_1 rfl rfl) ?_
      refine s_val rfl rfl (v_load1 rfl rfl Tryz.underlying25 rfl ((hrw.up cx.ext).cell 1 rfl)) ?_
      refine s_fnB cx (c5 _ _ _ (hp.up cx.ext)) Tryz.func5 rfl rfl rfl rfl rfl rfl ?_; intro q19 w cx hw19 hp19
      refine s_val rfl rfl (v_not rfl rfl) ?_
      refine wpList_nil ?_
      refine c_split rfl (fun hc20 => ?_) (fun hc20 => ?_)
      · skip
        try simp only [Bool.and_eq_true, Bool.or_eq_true, Bool.and_eq_false_iff, Bool.or_eq_false_iff, Bool.not_eq_true', Bool.not_eq_false', decide_eq_true_eq, decide_eq_false_iff_not, beq_iff_eq, beq_eq_false_iff_ne, bne_iff_ne, bne_eq_false_iff_eq, ne_eq, Classical.not_not] at hc20
        refine wp_seq ?_
        refine wp_region_lit ?_
        refine s_fnB cx (c4 _) Tryz.func4 rfl rfl rfl rfl rfl rfl ?_; intro q21 w cx hw21 hp21
        refine s_val rfl rfl (v_assign rfl rfl) ?_
        refine wpList_nil ?_
        refine wp_ret ?_
        refine ret_tmp Tryz.results3 rfl ?_
        exact ⟨cx.ext, _, rfl, hp21⟩
      · skip
        try simp only [Bool.and_eq_true, Bool.or_eq_true, Bool.and_eq_false_iff, Bool.or_eq_false_iff, Bool.not_eq_true', Bool.not_eq_false', decide_eq_true_eq, decide_eq_false_iff_not, beq_iff_eq, beq_eq_false_iff_ne, bne_iff_ne, bne_eq_false_iff_eq, ne_eq, Classical.not_not] at hc20
        have hgd : GdP x.path := hp19.1 (by simpa using hc20)
        refine wp_skip ?_
        refine wp_region_lit ?_
        refine s_val rfl rfl (v_move rfl hs3) ?_
        refine s_val rfl rfl (v_add rfl rfl rfl (by omega) (by omega)) ?_
        refine s_val rfl rfl (v_assign rfl rfl) ?_
        refine wpList_nil ?_
        exact ⟨gk4 - 1, _, by omega, rfl, i + 1, by omega, hs0, rfl, gd_more hx hall hgd, cx⟩
    · skip
      try simp only [Bool.and_eq_true, Bool.or_eq_true, Bool.and_eq_false_iff, Bool.or_eq_false_iff, Bool.not_eq_true', Bool.not_eq_false', decide_eq_true_eq, decide_eq_false_iff_not, beq_iff_eq, beq_eq_false_iff_ne, bne_iff_ne, bne_eq_false_iff_eq, ne_eq, Classical.not_not] at hc11
      have hgl := gd_all (by omega) hall
      refine wp_exit ?_
      refine wp_seq ?_
      refine wp_region_lit ?_
      refine s_val rfl rfl (v_move rfl hs0) ?_
      refine s_fn cx (c6 _ _ _ (hv.up cx.ext) hgl hl40 (ht.up cx.ext)) Tryz.func6 rfl rfl rfl rfl rfl rfl ?_; intro q23 w cx hw23 hp23
      subst hp23
      refine s_val rfl rfl (v_move rfl hs0) ?_
      refine s_fn cx (c7 _ _ _ (hv.up cx.ext) hgl hl40) Tryz.func7 rfl rfl rfl rfl rfl rfl ?_; intro q25 w cx hw25 hp25
      subst hp25
      refine s_val rfl rfl (v_strSame rfl rfl rfl) ?_
      refine s_val rfl rfl (v_move rfl rfl) ?_
      refine s_gfnB cx rfl rfl rfl (by first | exact w_tt rfl | exact w_gt rfl) (fun hc => c4 _) Tryz.func4 rfl rfl rfl (fun hc => rfl) ?_; intro q28 w cx hw28 hp28
      refine s_val rfl rfl (v_and rfl rfl rfl rfl) ?_
      refine s_val rfl rfl (v_assign rfl rfl) ?_
      refine wpList_nil ?_
      refine wp_ret ?_
      refine ret_tmp Tryz.results3 rfl ?_
      exact ⟨cx.ext, _, rfl, by simpa using hp28 rfl⟩
end Go.Proofs.YthlkmblljanfmaaGreatDoor
end
