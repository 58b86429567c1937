/-
  Maps from strings that a call makes.
-/
import Derived.Test.YthiafbkolhnadaaGreatDoorBc
import Derived.MapKept
set_option linter.unusedVariables false
namespace Go.Dk
open Go Go.RowKit
def hasK (ks : List ByteArray) (k : ByteArray) : Bool := ks.any fun x => decide (x = k)
theorem hasK_iff {ks : List ByteArray} {k : ByteArray} : hasK ks k = true ↔ k ∈ ks := by
  unfold hasK
  rw [List.any_eq_true]
  simp
def addK (ks : List ByteArray) (k : ByteArray) : List ByteArray := if hasK ks k then ks else ks ++ [k]
def idxK (ks : List ByteArray) (k : ByteArray) : Nat := ks.findIdx fun x => decide (x = k)
def ents : List ByteArray → (ByteArray → Value) → Nat → List MapEntry
  | [], _, _ => []
  | k :: ks, c, n => ⟨.string k, c k, n⟩ :: ents ks c (n + 1)
def updC (c : ByteArray → Value) (k : ByteArray) (v : Value) : ByteArray → Value := fun x => if x = k then v else c x
theorem ba_beq (a b : ByteArray) : (a == b) = decide (a = b) := by
  rw [Bool.eq_iff_iff, decide_eq_true_eq]
  cases a; cases b
  constructor
  · intro h
    exact congrArg ByteArray.mk (eq_of_beq (show ((_ : Array UInt8) == _) = true from h))
  · intro h
    cases h
    exact beq_self_eq_true (α := Array UInt8) _
theorem find_ents (k : ByteArray) : ∀ (ks : List ByteArray) (c : ByteArray → Value) (n j : Nat), Instr.findNow .string (.string k) (ents ks c n) j = some (if hasK ks k then some (j + idxK ks k, c k) else none)
  | [], c, n, j => rfl
  | x :: ks, c, n, j => by
    have ih := find_ents k ks c (n + 1) (j + 1)
    unfold ents Instr.findNow
    simp only [Instr.sameNow]
    by_cases h : x = k
    · subst h
      rw [ba_beq, decide_eq_true rfl]
      simp [hasK, idxK, List.findIdx_cons]
    · have h2 : (k == x) = false := by rw [ba_beq]; exact decide_eq_false fun e => h e.symm
      rw [h2]
      simp only [ih]
      have e1 : hasK (x :: ks) k = hasK ks k := by simp [hasK, h]
      have e2 : idxK (x :: ks) k = idxK ks k + 1 := by simp [idxK, List.findIdx_cons, h]
      rw [e1, e2, show j + 1 + idxK ks k = j + (idxK ks k + 1) by omega]
theorem ents_len : ∀ (ks : List ByteArray) (c : ByteArray → Value) (n : Nat), (ents ks c n).length = ks.length
  | [], _, _ => rfl
  | k :: ks, c, n => by simp [ents, ents_len ks c (n + 1)]
theorem ents_congr {c c' : ByteArray → Value} : ∀ (ks : List ByteArray) (n : Nat), (∀ k ∈ ks, c k = c' k) → ents ks c n = ents ks c' n
  | [], _, _ => rfl
  | k :: ks, n, h => by
    unfold ents
    rw [h k (by simp), ents_congr ks (n + 1) fun x hx => h x (List.mem_cons_of_mem _ hx)]
theorem ents_at (k : ByteArray) : ∀ (ks : List ByteArray) (c : ByteArray → Value) (n : Nat), hasK ks k = true → (ents ks c n)[idxK ks k]?.map (·.key) = some (.string k)
  | [], c, n, h => by simp [hasK] at h
  | x :: ks, c, n, h => by
    by_cases hx : x = k
    · subst hx
      simp [idxK, ents, List.findIdx_cons]
    · have e2 : idxK (x :: ks) k = idxK ks k + 1 := by simp [idxK, List.findIdx_cons, hx]
      rw [e2]
      have := ents_at k ks c (n + 1) (by simpa [hasK, hx] using h)
      simpa [ents] using this
theorem ents_set (k : ByteArray) (v : Value) : ∀ (ks : List ByteArray) (c : ByteArray → Value) (n : Nat), ks.Nodup → hasK ks k = true → (ents ks c n).modify (idxK ks k) (fun e => { e with key := .string k, val := v }) = ents ks (updC c k v) n
  | [], c, n, _, h => by simp [hasK] at h
  | x :: ks, c, n, hn, h => by
    obtain ⟨h1, h2⟩ := List.nodup_cons.1 hn
    by_cases hx : x = k
    · subst hx
      have e0 : idxK (x :: ks) x = 0 := by simp [idxK, List.findIdx_cons]
      rw [e0]
      show _ :: ents ks c (n + 1) = _ :: ents ks (updC c x v) (n + 1)
      rw [ents_congr (c := c) (c' := updC c x v) ks (n + 1) fun y hy => by
        unfold updC; rw [if_neg]; rintro rfl; exact h1 hy]
      simp [updC]
    · have e2 : idxK (x :: ks) k = idxK ks k + 1 := by simp [idxK, List.findIdx_cons, hx]
      rw [e2]
      have := ents_set k v ks c (n + 1) h2 (by simpa [hasK, hx] using h)
      simp only [ents, List.modify_succ_cons, this]
      simp [updC, hx]
theorem ents_push (k : ByteArray) (v : Value) : ∀ (ks : List ByteArray) (c : ByteArray → Value) (n : Nat), hasK ks k = false → ents ks c n ++ [⟨.string k, v, n + ks.length⟩] = ents (ks ++ [k]) (updC c k v) n
  | [], c, n, _ => by simp [ents, updC]
  | x :: ks, c, n, h => by
    have hx : x ≠ k := by rintro rfl; simp [hasK] at h
    have := ents_push k v ks c (n + 1) (by simpa [hasK, hx] using h)
    rw [List.cons_append]
    unfold ents
    rw [List.cons_append, ← this]
    simp [updC, hx]
    omega
section
variable {P : Program} {ops : Array Oper} {Q : Exit → Act → World → Prop} {rest : List Oper} {o : Oper} {n : Nat} {f : Nat → Value} {w w0 : World} {L : List (Nat × Obj)} {R : List Row} {ρ : Operand → Value}
theorem s_makeMap {d : Nat} {t : TypeId} (cx : Cxr w0 w L R) (hg : o.guard = none) (hd : o.dst = some d) (ho : o.op = .makeMap t none)
    (h : ∀ b w', Cxr w0 w' ((b, .map (ents [] (fun _ => default) 0).toArray 0) :: L) R → w.heap.size = b → Below w.heap.size w w' → wpList P ops Q rest (St n (upd f d (.map (some b)))) w') : wpList P ops Q (o :: rest) (St n f) w := by
  refine s_new (w' := w.alloc (.map (ents [] (fun _ => default) 0).toArray 0)) (v := .map (some w.heap.size)) hg hd ?_ (h _ _ (cx.alloc _) rfl ((Below.refl _ _).alloc (Nat.le_refl _) _))
  unfold execOp; rw [ho]
  simp [Instr.makeMap, ents]
theorem run_checkStr {kt : TypeId} {k : ByteArray} (e : Bool) (hk : P.underlying kt = some .string) : (Instr.checkKey e 10000 kt (.string k)).run P w = .ok () w := by
  rw [show (10000 : Nat) = 9999 + 1 from rfl, Instr.checkKey]
  simp [run_underlying hk]
theorem run_findKey {kt : TypeId} {k : ByteArray} {ks : List ByteArray} {c : ByteArray → Value} {m : Nat} (hk : P.underlying kt = some .string) : (Instr.findKey kt (.string k) (ents ks c m)).run P w = .ok (if hasK ks k then some (idxK ks k, c k) else none) w := by
  have := find_ents k ks c m 0
  rw [Nat.zero_add] at this
  simp [Instr.findKey, run_underlying hk, this]
theorem v_lookupS {t kt et : TypeId} {x y : Operand} {b m : Nat} {k : ByteArray} {ks : List ByteArray} {c : ByteArray → Value} (ho : o.op = .lookup t x y false) (hx : ρ x = .map (some b)) (hy : ρ y = .string k) (ht : P.underlying t = some (.map kt et)) (hk : P.underlying kt = some .string)
    {z : Value} (hz : (zeroValue et).run P w = .ok z w) (hb : w.heap[b]? = some (.map (ents ks c 0).toArray m)) : (execOp ρ o).run P w = .ok (.value (if hasK ks k then c k else z)) w := by
  unfold execOp; rw [ho]
  simp only [hx, hy]
  have h1 := MapKept.run_getObj_map (P := P) hb
  have h2 := fun e => run_checkStr (P := P) (w := w) (k := k) e hk
  have h3 := run_findKey (P := P) (w := w) (k := k) (ks := ks) (c := c) (m := 0) hk
  by_cases hh : hasK ks k = true
  · rw [if_pos hh] at h3 ⊢
    simp [Instr.lookup, run_underlying ht, h1, h2, h3, Result.andThen]
  · rw [if_neg hh] at h3 ⊢
    simp [Instr.lookup, run_underlying ht, h1, h2, h3, hz, Result.andThen]
theorem s_mapSet {t kt et : TypeId} {x y z : Operand} {b : Nat} {k : ByteArray} {ks : List ByteArray} {c : ByteArray → Value} {v : Value} (cx : Cxr w0 w L R) (i : Nat) (hg : o.guard = none) (hd : o.dst = none) (ho : o.op = .mapUpdate t x y z) (hx : ev n f x = .map (some b)) (hy : ev n f y = .string k) (hz : ev n f z = v)
    (ht : P.underlying t = some (.map kt et)) (hk : P.underlying kt = some .string) (hn : ks.Nodup) (hi : L[i]? = some (b, .map (ents ks c 0).toArray ks.length))
    (h : ∀ w', Cxr w0 w' (L.set i (b, .map (ents (addK ks k) (updC c k v) 0).toArray (addK ks k).length)) R → w.grownBy w' (some b) → wpList P ops Q rest (St n f) w') : wpList P ops Q (o :: rest) (St n f) w := by
  have hb := cx.at i hi
  have hlt : b < w.heap.size := (Array.getElem?_eq_some_iff.1 hb).1
  have h1 := MapKept.run_getObj_map (P := P) hb
  have h2 := run_checkStr (P := P) (w := w) (k := k) false hk
  have h3 := run_findKey (P := P) (w := w) (k := k) (ks := ks) (c := c) (m := 0) hk
  have hset : ∀ o', (setObj b o').run P w = .ok () { w with heap := w.heap.setIfInBounds b o' } := fun o' => MapKept.run_setObj_map o' hb
  have hgr : ∀ o', w.grownBy { w with heap := w.heap.setIfInBounds b o' } (some b) := fun o' => ⟨rfl, rfl, rfl, by simp, fun q _ hne => by
    show (w.heap.setIfInBounds b o')[q]? = _
    rw [Array.getElem?_setIfInBounds_ne (fun e => hne (by rw [e]))]⟩
  have hcx : ∀ o', Cxr w0 { w with heap := w.heap.setIfInBounds b o' } (L.set i (b, o')) R := fun o' => cx.turn i hi rfl rfl rfl (by simp) (by
    show (w.heap.setIfInBounds b o')[b]? = _
    simp [hlt]) fun q _ hne => by
      show (w.heap.setIfInBounds b o')[q]? = _
      rw [Array.getElem?_setIfInBounds_ne (Ne.symm hne)]
  by_cases hh : hasK ks k = true
  · rw [if_pos hh] at h3
    have e1 : addK ks k = ks := by unfold addK; rw [if_pos hh]
    have hkey := ents_at k ks c 0 hh
    have hst : (Instr.keyThatStays (.string k) (.string k)).run P w = .ok (.string k) w := by simp [Instr.keyThatStays, Instr.sameBits, ba_beq]
    have e2 : (ents ks c 0).toArray.modify (idxK ks k) (fun e => { e with key := .string k, val := v }) = (ents ks (updC c k v) 0).toArray := by
      rw [← ents_set k v ks c 0 hn hh]; simp
    refine s_put hg hd ?_ (h _ (by rw [e1]; exact hcx (.map (ents ks (updC c k v) 0).toArray ks.length)) (hgr _))
    unfold execOp; rw [ho]
    have hkey' : ((ents ks c 0)[idxK ks k]?.map (·.key)).getD (.string k) = .string k := by rw [hkey]; rfl
    simp [hx, hy, hz, Instr.mapUpdate, run_underlying ht, h1, h2, h3, hkey', hst, hset, Result.andThen]
    rw [ents_set k v ks c 0 hn hh]
  · rw [if_neg hh] at h3
    have hh' : hasK ks k = false := by simpa using hh
    have e1 : addK ks k = ks ++ [k] := by unfold addK; rw [if_neg hh]
    have e2 : (ents ks c 0).toArray.push ⟨.string k, v, ks.length⟩ = (ents (ks ++ [k]) (updC c k v) 0).toArray := by
      rw [← ents_push k v ks c 0 hh']; simp
    refine s_put hg hd ?_ (h _ (by rw [e1, List.length_append]; exact hcx (.map (ents (ks ++ [k]) (updC c k v) 0).toArray (ks.length + 1))) (hgr _))
    unfold execOp; rw [ho]
    simp [hx, hy, hz, Instr.mapUpdate, run_underlying ht, h1, h2, h3, hset, Result.andThen]
    simp only [← e2]
    simp
end
end Go.Dk
