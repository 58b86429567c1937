/-
  Facts for the reference's Equal: strings out of bytes, the order of strings, parts of rows of the call's own.
-/
import Derived.Test.YtmkihcdcgkdilaaSi
set_option linter.unusedVariables false
set_option linter.unusedSimpArgs false
namespace Go.Dk
open Go Go.RowKit
theorem strOf_list : ∀ (l : List UInt8) (r : ByteArray), ((l.map fun u => (u.toNat : Int)).foldl (fun r n => r.push (UInt8.ofNat n.toNat)) r).data.toList = r.data.toList ++ l
  | [], r => by simp
  | u :: l, r => by
    simp only [List.map_cons, List.foldl_cons]
    rw [strOf_list l]
    have e : (r.push (UInt8.ofNat ((u.toNat : Int)).toNat)).data.toList = r.data.toList ++ [u] := by
      have : UInt8.ofNat ((u.toNat : Int)).toNat = u := by simp
      rw [this]
      simp [ByteArray.push]
    rw [e]; simp
theorem strB_list (l : List UInt8) : (strB l).data.toList = l := by
  have := strOf_list l ByteArray.empty
  have e : ByteArray.empty.data.toList = [] := rfl
  rw [e, List.nil_append] at this
  exact this
theorem strB_inj {a b : List UInt8} : strB a = strB b ↔ a = b := ⟨fun h => by rw [← strB_list a, h, strB_list], fun h => by rw [h]⟩
theorem v_iff (v u : V) : v = u ↔ v.sc = u.sc ∧ v.bytes = u.bytes ∧ v.list = u.list ∧ v.fields = u.fields := by
  cases v; cases u
  simp only [V.mk.injEq, V.sc, V.bytes, V.list, V.fields]
theorem less_cmp : ∀ a b : List UInt8, Go.Op.bytesLess a b = decide (cmpL a b < 0)
  | [], [] => rfl
  | _ :: _, [] => rfl
  | [], _ :: _ => rfl
  | x :: a, y :: b => by
    unfold Go.Op.bytesLess cmpL
    by_cases h : x = y
    · subst h
      have : ¬ x < x := fun h => absurd (UInt8.lt_iff_toNat_lt.1 h) (Nat.lt_irrefl _)
      simp [this, less_cmp a b]
    · by_cases h1 : x < y <;> simp [h, h1]
theorem le_cmp (a b : ByteArray) : (Go.Op.bytesLess a.toList b.toList || (a.toList == b.toList)) = decide (kc a b ≤ 0) := by
  rw [less_cmp, ByteArray.toList_eq, ByteArray.toList_eq]
  unfold kc
  rw [Bool.eq_iff_iff]
  simp only [Bool.or_eq_true, decide_eq_true_eq, beq_iff_eq]
  constructor
  · rintro (h | h)
    · omega
    · rw [h, cmpL_refl]; omega
  · intro h
    by_cases h0 : cmpL a.data.toList b.data.toList = 0
    · exact .inr (cmpL_zero _ _ h0)
    · exact .inl (by omega)
section
variable {P : Program} {o : Oper} {w : World} {ρ : Operand → Value}
theorem v_strLe {t t' : TypeId} {x y : Operand} {s u : ByteArray} (ho : o.op = .binOp .leq t x y t') (hx : ρ x = .string s) (hy : ρ y = .string u) : (execOp ρ o).run P w = .ok (.value (.bool (decide (kc s u ≤ 0)))) w := by
  unfold execOp; rw [ho]
  simp [hx, hy, eqGuard, binOp, Op.stringOp, ← le_cmp]
end
/-- parts of a slice of the call's own, as sources -/
theorem src_own {w : World} {B e n k : Nat} {v : Value} {rs : Els} (row : w.ownsRow B e 14 v n rs.flatten) (hr : ∀ r ∈ rs, r.length = 14) (hn : rs.length = n) (hk : k ≤ n) :
    ∃ a c, v = .slice a n c ∧ n ≤ c ∧ Src w (sliced a 0 k c 14) k (rs.take k).flatten ∧ Src w (sliced a k n c 14) (n - k) (rs.drop k).flatten := by
  have hl : ∀ (X : Els), (∀ r ∈ X, r.length = 14) → X.flatten.length = X.length * 14 := by
    intro X hX
    induction X with
    | nil => rfl
    | cons x X ih => rw [List.flatten_cons, List.length_append, ih (fun r h => hX r (List.mem_cons_of_mem _ h)), hX x (by simp), List.length_cons]; omega
  rcases row.2 with ⟨rfl, h0⟩ | ⟨g, cap, cur, rfl, hb, hg, hle, _, hcs, htake⟩
  · have : rs = [] := List.eq_nil_of_length_eq_zero (by omega)
    subst this
    have hk0 : k = 0 := by omega
    subst hk0 h0
    exact ⟨none, 0, rfl, Nat.le_refl _, .inl ⟨by simp [sliced], rfl, rfl⟩, .inl ⟨by simp [sliced], rfl, rfl⟩⟩
  · have hrow : RowAt w g 0 rs.flatten := by
      obtain ⟨a, c, e, h⟩ := own_row row
      intro j x hj
      have h0 : 0 < n := by
        have := (List.getElem?_eq_some_iff.1 hj).1
        rw [hl rs hr] at this; omega
      obtain ⟨g', rfl, h1⟩ := h h0
      simp only [Value.slice.injEq, Option.some.injEq, Addr.mk.injEq, and_true, true_and] at e
      obtain ⟨rfl, _⟩ := e
      exact h1 j x hj
    refine ⟨some ⟨g, 0, none⟩, cap, rfl, hle, .inr ⟨⟨g, 0, none⟩, cap, ?_, fun j u hj => ?_⟩, ?_⟩
    · unfold sliced; split <;> simp [add_addr]
    · rw [add_addr]; exact hrow j u (flat_take hj)
    · obtain ⟨ad, h1, h2⟩ := sliced_lo (h := k) (len := n) (cap := cap) hrow (by rw [hl _ fun r h => hr r (List.mem_of_mem_take h), List.length_take, Nat.min_eq_left (by omega)])
      refine .inr ⟨ad, _, h1, fun j u hj => h2 j u hj fun e => ?_⟩
      have := (List.getElem?_eq_some_iff.1 hj).1
      rw [hl _ fun r h => hr r (List.mem_of_mem_drop h), List.length_drop] at this
      omega
theorem insF_at {kv : ByteArray × V} : ∀ (o : Fs) (k : Nat), k ≤ o.length → (∀ j x, j < k → o[j]? = some x → kc x.1 kv.1 ≤ 0) → (∀ x, o[k]? = some x → ¬ kc x.1 kv.1 ≤ 0) → insF kv o = o.take k ++ kv :: o.drop k
  | [], k, hk, _, _ => by simp [insF]
  | x :: r, 0, _, _, h => by
    have := h x (by simp)
    simp [insF, this]
  | x :: r, k + 1, hk, h1, h2 => by
    have := h1 0 x (by omega) (by simp)
    simp only [insF, if_pos this, List.take_succ_cons, List.drop_succ_cons, List.cons_append]
    rw [insF_at r k (by simpa using hk) (fun j y hj hy => h1 (j + 1) y (by omega) (by simpa using hy)) (fun y hy => h2 y (by simpa using hy))]
theorem Cxr.first {w0 w : World} {L : List (Nat × Obj)} {r : Row} {R : List Row} (h : Cxr w0 w L (r :: R)) : Cxr w0 w L [r] :=
  ⟨h.ext, h.own, h.lo, h.nd, fun s hs => by obtain rfl : s = r := by simpa using hs
                                            exact h.rows s (by simp), fun s hs => by obtain rfl : s = r := by simpa using hs
                                                                                     exact h.off s (by simp), List.pairwise_singleton _ _⟩
theorem Cxr.rowOf {w0 w : World} {L : List (Nat × Obj)} {R : List Row} {e k n g c : Nat} {xs : List Value} (cx : Cxr w0 w L (⟨e, k, .slice (some ⟨g, 0, none⟩) n c, n, xs⟩ :: R)) (h0 : 0 < n) : RowAt w g 0 xs := by
  obtain ⟨a, c', e, h⟩ := cx.ownRow
  obtain ⟨g', rfl, h1⟩ := h h0
  simp only [Value.slice.injEq, Option.some.injEq, Addr.mk.injEq, and_true, true_and] at e
  obtain ⟨rfl, _⟩ := e
  exact h1
theorem rows14 {A : Nat → Prop} {w : World} {fs : Fs} {rs : Els} (h : RowsF A w fs rs) : ∀ r ∈ rs, r.length = 14 := RowsF.lens fs rs h
theorem RowsF.one1 {A : Nat → Prop} {w : World} {fs : Fs} {rs : Els} (h : RowsF A w fs rs) : rs.flatten.all (·.oneCell') = true := RowsF.one fs rs h
theorem flatk {A : Nat → Prop} {w : World} {fs : Fs} {rs : Els} (h : RowsF A w fs rs) (k : Nat) (hk : k ≤ fs.length) : (rs.take k).flatten.length = k * 14 ∧ (rs.drop k).flatten.length = (fs.length - k) * 14 := by
  refine ⟨?_, ?_⟩
  · have := (RowsF.length _ _ (RowsF.take _ _ k h)).1
    rw [this, List.length_take]; congr 1; omega
  · have := (RowsF.length _ _ (RowsF.drop _ _ k h)).1
    rw [this, List.length_drop]
end Go.Dk
