/-
  What stays while a call works on blocks of its own; calls in any order; the merge of three values in plain terms; conflicts and counting maps in memory.
-/
import Derived.Test.YtmkihcdcgkdilaaPa
import Derived.Test.YtmkihcdcgkdilaaDf
import Derived.MapKept
set_option linter.unusedVariables false
set_option linter.unusedSimpArgs false
namespace Go.Dk
open Go Go.RowKit
/-- the blocks that stay -/
def F (w : World) (L : List (Nat × Obj)) (R : List Row) (b : Nat) : Prop := b < w.heap.size ∧ b ∉ L.map (·.1) ∧ ∀ r ∈ R, r.v.ownBlock ≠ some b
/-- they have stayed, and stay -/
structure Fz (w : World) (L : List (Nat × Obj)) (R : List Row) (w' : World) (L' : List (Nat × Obj)) (R' : List Row) : Prop where
  up : ∀ b, F w L R b → F w' L' R' b
  kp : Keeps (F w L R) w w'
  sz : w.heap.size ≤ w'.heap.size
theorem F.lt {w : World} {L : List (Nat × Obj)} {R : List Row} (b : Nat) (h : F w L R b) : b < w.heap.size := h.1
section
variable {w0 w w' w'' : World} {L L' L'' : List (Nat × Obj)} {R R' R'' : List Row}
theorem Fz.refl (w : World) (L : List (Nat × Obj)) (R : List Row) : Fz w L R w L R := ⟨fun _ h => h, fun _ _ => rfl, Nat.le_refl _⟩
theorem Fz.trans (h : Fz w L R w' L' R') (h' : Fz w' L' R' w'' L'' R'') : Fz w L R w'' L'' R'' :=
  ⟨fun b hb => h'.up b (h.up b hb), fun b hb => (h'.kp b (h.up b hb)).trans (h.kp b hb), Nat.le_trans h.sz h'.sz⟩
theorem Fz.below (hb : Below w.heap.size w w') : Fz w L R w' L R :=
  ⟨fun b h => ⟨Nat.lt_of_lt_of_le h.1 hb.size, h.2⟩, fun b h => hb.block b h.1, hb.size⟩
/-- a new block of the call's own -/
theorem Fz.new {b : Nat} {o : Obj} (hb : w.heap.size = b) (hw : Below w.heap.size w w') : Fz w L R w' ((b, o) :: L) R :=
  ⟨fun c h => ⟨Nat.lt_of_lt_of_le h.1 hw.size, fun hm => by
    rcases List.mem_cons.1 (by simpa using hm : c ∈ b :: L.map (·.1)) with e | e
    · have := h.1; omega
    · exact h.2.1 e, h.2.2⟩, fun c h => hw.block c h.1, hw.size⟩
theorem set_ids {i b : Nat} {o o' : Obj} (hi : L[i]? = some (b, o)) : (L.set i (b, o')).map (·.1) = L.map (·.1) := by
  apply List.ext_getElem?
  intro j
  simp only [List.getElem?_map, List.getElem?_set]
  split
  · rename_i he; subst he; simp [hi]; exact (List.getElem?_eq_some_iff.1 hi).1
  · rfl
/-- one of the call's own blocks is written -/
theorem Fz.set {i b : Nat} {o o' : Obj} (hi : L[i]? = some (b, o)) (hg : w.grownBy w' (some b)) : Fz w L R w' (L.set i (b, o')) R :=
  ⟨fun c h => ⟨Nat.lt_of_lt_of_le h.1 hg.size, by rw [set_ids hi]; exact h.2.1, h.2.2⟩, fun c h => hg.block c h.1 fun e => h.2.1 (by
    simp only [Option.some.injEq] at e; subst e; exact List.mem_map.2 ⟨_, List.mem_of_getElem? hi, rfl⟩), hg.size⟩
/-- the first of the call's own slices is appended to, or written -/
theorem Fz.app {r r' : Row} (hg : w.grownBy w' r.v.ownBlock) (hn : ∀ q, r'.v.ownBlock = some q → r.v.ownBlock = some q ∨ w.heap.size ≤ q) : Fz w L (r :: R) w' L (r' :: R) :=
  ⟨fun c h => ⟨Nat.lt_of_lt_of_le h.1 hg.size, h.2.1, fun s hs => by
    rcases List.mem_cons.1 hs with rfl | hs
    · intro e
      rcases hn c e with h1 | h1
      · exact h.2.2 r (List.mem_cons_self ..) h1
      · have := h.1; omega
    · exact h.2.2 s (List.mem_cons_of_mem _ hs)⟩, fun c h => hg.block c h.1 fun e => h.2.2 r (List.mem_cons_self ..) e.symm, hg.size⟩
theorem Fz.dropL (k : Nat) : Fz w L R w (L.drop k) R := ⟨fun c h => ⟨h.1, fun hm => h.2.1 (mem_map_drop hm), h.2.2⟩, fun _ _ => rfl, Nat.le_refl _⟩
theorem Fz.dropR (k : Nat) : Fz w L R w L (R.drop k) := ⟨fun c h => ⟨h.1, h.2.1, fun r hr => h.2.2 r (List.mem_of_mem_drop hr)⟩, fun _ _ => rfl, Nat.le_refl _⟩
theorem Fz.nilRow (e size : Nat) : Fz w L R w L (⟨e, size, .slice none 0 0, 0, []⟩ :: R) := ⟨fun c h => ⟨h.1, h.2.1, fun r hr => by
  rcases List.mem_cons.1 hr with rfl | hr
  · intro e; cases e
  · exact h.2.2 r hr⟩, fun _ _ => rfl, Nat.le_refl _⟩
theorem Fz.swap {r s : Row} : Fz w L (r :: s :: R) w L (s :: r :: R) := ⟨fun c h => ⟨h.1, h.2.1, fun t ht => h.2.2 t (by
  simp only [List.mem_cons] at ht ⊢
  rcases ht with h | h | h
  · exact .inr (.inl h)
  · exact .inl h
  · exact .inr (.inr h))⟩, fun _ _ => rfl, Nat.le_refl _⟩
/-- a row that a call has made -/
theorem Fz.adopt {e k n : Nat} {v : Value} {xs : List Value} (hb : Below w.heap.size w w') (row : w'.ownsRow w.heap.size e k v n xs) : Fz w L R w' L (⟨e, k, v, n, xs⟩ :: R) :=
  ⟨fun c h => ⟨Nat.lt_of_lt_of_le h.1 hb.size, h.2.1, fun r hr => by
    rcases List.mem_cons.1 hr with rfl | hr
    · intro e; have := (row.lt _ e).1; have := h.1; omega
    · exact h.2.2 r hr⟩, fun c h => hb.block c h.1, hb.size⟩
/-- what a callee has made -/
theorem F.fresh (cx : Cxr w0 w L R) (hs : w.heap.size ≤ w'.heap.size) : ∀ b, Fr w w' b → F w' L R b := fun b h =>
  ⟨h.2, fun hm => by obtain ⟨p, hp, rfl⟩ := List.mem_map.1 hm; have := cx.lt p hp; have := h.1; omega, fun r hr e => by
    have := ((cx.rows r hr).lt _ e).2; have := h.1; omega⟩
/-- a block of the call's own that is not written any more -/
theorem F.own1 {b : Nat} {o : Obj} (cx : Cxr w0 w ((b, o) :: L) R) : F w L R b :=
  ⟨cx.lt (b, o) (by simp), by have := cx.nd; simp only [List.map_cons, List.nodup_cons] at this; exact this.1, fun r hr e => cx.off r hr b e (by simp)⟩
/-- .. and a slice of the call's own -/
theorem F.row1 {r : Row} (cx : Cxr w0 w L (r :: R)) : ∀ q, r.v.ownBlock = some q → F w L R q := fun q hq =>
  ⟨((cx.rows r (List.mem_cons_self ..)).lt q hq).2, cx.off r (List.mem_cons_self ..) q hq, fun s hs => (List.pairwise_cons.1 cx.pw).1 s hs q hq⟩
theorem Fz.rep (hz : Fz w L R w' L' R') {v : V} {r : List Value} (h : RepV (F w L R) w v r) : RepV (F w' L' R') w' v r := RepV.mono hz.up hz.kp _ _ h
theorem Fz.pth (hz : Fz w L R w' L' R') {s : Value} {p : List Stp} (h : PthA (F w L R) w s p) : PthA (F w' L' R') w' s p := h.mono hz.up hz.kp
theorem Fz.repL (hz : Fz w L R w' L' R') {s : Value} {l : List V} (h : RepL (F w L R) w s l) : RepL (F w' L' R') w' s l := h.mono hz.up hz.kp
theorem Fz.repF (hz : Fz w L R w' L' R') {s : Value} {l : List (ByteArray × V)} (h : RepF (F w L R) w s l) : RepF (F w' L' R') w' s l := h.mono hz.up hz.kp
theorem Fz.rowsF (hz : Fz w L R w' L' R') {l : List (ByteArray × V)} {rs : List (List Value)} (h : RowsF (F w L R) w l rs) : RowsF (F w' L' R') w' l rs := RowsF.mono hz.up hz.kp _ _ h
theorem Fz.row (hz : Fz w L R w' L' R') {b o : Nat} {l : List Value} (h : RowAt w b o l) (hb : F w L R b) : RowAt w' b o l := h.keep (hz.kp b hb)
theorem RepV.val {v : V} {r : List Value} (h : RepV (F w L R) w v r) : Val w v r := RepV.mono (fun b hb => hb.1) (fun _ _ => rfl) _ _ h
theorem RepV.fr {v : V} {r : List Value} (h : RepV (Fr w w') w' v r) (cx : Cxr w0 w L R) (hs : w.heap.size ≤ w'.heap.size) : RepV (F w' L R) w' v r := RepV.mono (F.fresh cx hs) (fun _ _ => rfl) _ _ h
theorem PthA.fr {s : Value} {p : List Stp} (h : PthA (Fr w w') w' s p) (cx : Cxr w0 w L R) (hs : w.heap.size ≤ w'.heap.size) : PthA (F w' L R) w' s p := h.mono (F.fresh cx hs) (fun _ _ => rfl)
end

theorem Cxr.fr0 {w0 w : World} {L : List (Nat × Obj)} {R : List Row} {b : Nat} {o : Obj} (cx : Cxr w0 w ((b, o) :: L) R) : Fr w0 w b := ⟨cx.lo (b, o) (by simp), cx.lt (b, o) (by simp)⟩
theorem Cxr.set0 {w0 w : World} {L : List (Nat × Obj)} {R : List Row} {b : Nat} {o o' : Obj} (cx : Cxr w0 w (((b, o) :: L).set 0 (b, o')) R) : Cxr w0 w ((b, o') :: L) R := cx
/-! ### values that may be absent -/
abbrev OV := Option V
/-- the pointer to a value, nil where there is none -/
def PtrO (A : Nat → Prop) (w : World) (x : Value) : OV → Prop
  | none => x = .pointer none
  | some v => ∃ b r, x = .pointer (some ⟨b, 0, none⟩) ∧ A b ∧ RowAt w b 0 r ∧ RepV A w v r
theorem PtrO.mono {A A' : Nat → Prop} {w w' : World} (hA : ∀ b, A b → A' b) (hk : Keeps A w w') {x : Value} {o : OV} (h : PtrO A w x o) : PtrO A' w' x o := by
  cases o with
  | none => exact h
  | some v =>
    obtain ⟨b, r, e, h1, h2, h3⟩ := h
    exact ⟨b, r, e, hA b h1, h2.keep (hk b h1), RepV.mono hA hk _ _ h3⟩
theorem Fz.ptr {w w' : World} {L L' : List (Nat × Obj)} {R R' : List Row} (hz : Fz w L R w' L' R') {x : Value} {o : OV} (h : PtrO (F w L R) w x o) : PtrO (F w' L' R') w' x o := h.mono hz.up hz.kp
theorem PtrO.fr {w0 w w' : World} {L : List (Nat × Obj)} {R : List Row} {x : Value} {o : OV} (h : PtrO (Fr w w') w' x o) (cx : Cxr w0 w L R) (hs : w.heap.size ≤ w'.heap.size) : PtrO (F w' L R) w' x o := h.mono (F.fresh cx hs) (fun _ _ => rfl)
/-- what a pointer that may be nil is -/
theorem PtrO.form {A : Nat → Prop} {w : World} {x : Value} {o : OV} (h : PtrO A w x o) : ∃ a b r, x = .pointer a ∧ a.isSome = o.isSome ∧ (o.isSome = true → a = some ⟨b, 0, none⟩ ∧ A b ∧ RowAt w b 0 r ∧ RepV A w (o.getD nulV) r) := by
  cases o with
  | none => exact ⟨none, 0, [], h, rfl, fun h => by cases h⟩
  | some v =>
    obtain ⟨b, r, e, h1, h2, h3⟩ := h
    exact ⟨_, b, r, e, rfl, fun _ => ⟨rfl, h1, h2, h3⟩⟩
end Go.Dk

set_option linter.unusedVariables false
set_option linter.unusedSimpArgs false
namespace Go.Dk
open Go Go.RowKit
/-- an operation in the middle: its place, its slot, and what is known of what it yields -/
structure Mid where
  i : Nat
  d : Nat
  φ : Value → World → Prop
def ixs (M : List Mid) : List (Nat × Nat) := M.map fun x => (x.i, x.d)
def anyI (l : List (Nat × Nat)) (i : Nat) : Bool := l.any fun q => Nat.beq q.1 i
def distB : List (Nat × Nat) → Bool
  | [] => true
  | p :: r => r.all (fun q => !Nat.beq q.2 p.2) && distB r
theorem dist_inj : ∀ {M : List Mid} {x y : Mid}, distB (ixs M) = true → x ∈ M → y ∈ M → x.d = y.d → x = y
  | z :: M, x, y, h, hx, hy, he => by
    simp only [ixs, List.map_cons, distB, Bool.and_eq_true, List.all_eq_true, Bool.not_eq_true'] at h
    have no : ∀ u ∈ M, u.d ≠ z.d := fun u hu e => by
      have := h.1 (u.i, u.d) (List.mem_map.2 ⟨u, hu, rfl⟩)
      simp only [e, Nat.beq_refl] at this; cases this
    rcases List.mem_cons.1 hx with e1 | hx1
    · rcases List.mem_cons.1 hy with e2 | hy1
      · rw [e1, e2]
      · subst e1; exact absurd he.symm (no y hy1)
    · rcases List.mem_cons.1 hy with e2 | hy1
      · subst e2; exact absurd he (no x hx1)
      · exact dist_inj h.2 hx1 hy1 he
  | [], _, _, _, hx, _, _ => by cases hx
/-- what is asked of a region's text -/
def midB (ops : Array Oper) (pu M : List (Nat × Nat)) : Bool :=
  (M.all fun p => (match ops[p.1]? with | some o => (match o.dst with | some d => Nat.beq d p.2 | none => false) | none => false) && !anyI pu p.1 && (depsOf ops p.1).all (fun e => anyI pu e || anyI M e)) &&
  distB M &&
  (pu.all fun p => (depsOf ops p.1).all fun e => anyI pu e) &&
  (List.range ops.size).all fun j => anyI pu j || anyI M j || M.all fun p => isAnc ops 12 p.1 j
theorem anyI_iff {l : List (Nat × Nat)} {i : Nat} : anyI l i = true ↔ ∃ q ∈ l, q.1 = i := by
  unfold anyI
  rw [List.any_eq_true]
  constructor
  · rintro ⟨q, h1, h2⟩; exact ⟨q, h1, Nat.eq_of_beq_eq_true h2⟩
  · rintro ⟨q, h1, rfl⟩; exact ⟨q, h1, Nat.beq_refl _⟩
section
variable {P : Program} {ops : Array Oper} {Q : Exit → Act → World → Prop} {S : World → Prop} {pu : List (Nat × Nat)} {n : Nat} {w0 : World} {L : List (Nat × Obj)} {R : List Row}
theorem single_mono {K K' : Act → World → Prop} {o : Oper} {a : Act} {w : World} (hns : ∀ cs b, o.op ≠ .select cs b) (hK : ∀ a' w', K a' w' → K' a' w') (H : wpList P ops (Fin0 K) [o] a w) : wpList P ops (Fin0 K') [o] a w := by
  have key := step_rl (P := P) (ops := ops) (Q := Fin0 K') (K' := K') (bad := fun _ => False) (bad' := fun _ => False) hns ⟨rfl, rfl, fun _ _ => rfl⟩ (fun _ _ h => h) (fun x _ => .inr fun h => h) (fun a' b' w' hr _ hk => by
    have e : a' = b' := by
      obtain ⟨t1, d1⟩ := a'
      obtain ⟨t2, d2⟩ := b'
      obtain ⟨h1, h2, h3⟩ := hr
      simp only at h1 h2 h3
      subst h1
      congr 1
      apply Array.ext_getElem?
      intro i
      exact h3 i fun h => h
    subst e
    exact hK _ _ hk) H
  unfold wpList
  split
  · rename_i hw; rw [if_pos hw] at key; exact .inl key
  · rename_i hw; rw [if_neg hw] at key; exact key
theorem msk_ext {l m : Array Bool} {p : Nat → Bool} (hs : l.size = m.size) (h1 : ∀ i, i < l.size → lk l i = p i) (h2 : ∀ i, i < m.size → lk m i = p i) : l = m := by
  apply Array.ext hs
  intro i hi hi'
  have a := h1 i hi
  have b := h2 i hi'
  unfold lk at a b
  simp only [Array.getD, hi, hi', dif_pos] at a b
  simp at a b
  rw [a, b]
theorem mskOrd_spec {m : Array Bool} {l : List (Nat × Nat)} (h : mskOrd ops l m = true) : m.size = ops.size ∧ ∀ i, i < ops.size → lk m i = anyI l i := by
  unfold mskOrd at h
  simp only [Bool.and_eq_true, Nat.beq_eq, List.all_eq_true, List.mem_range, beq_iff_eq] at h
  exact ⟨by simpa using h.1, fun i hi => h.2 i hi⟩
theorem anyI_append {l l' : List (Nat × Nat)} {i : Nat} : anyI (l ++ l') i = (anyI l i || anyI l' i) := by unfold anyI; rw [List.any_append]

theorem wpX_mono (hch : chkOrd ops pu = true) : ∀ (k : Nat) (l : Array Bool) (a : Act) (w : World), wpX P ops pu Q S k l a w → wpX P ops pu Q S (k + 1) l a w
  | 0, _, _, _, h => h.elim
  | k + 1, l, a, w, h => ⟨h.1, fun i hi => by
    obtain ⟨o, ho, hx⟩ := h.2 i hi
    exact ⟨o, ho, single_mono (fun cs b => Region.noSelect_spec (chk_sel hch) i o cs b ho) (fun a' w' hk => ⟨hk.1, wpX_mono hch k _ a' w' hk.2⟩) hx⟩⟩

/-- the operations of M in any order, where those of ls are done -/
theorem x_midK {w1 : World} {g : Nat → Value} (K k : Nat) (M : List Mid) (ls il : List (Nat × Nat)) (m m' : Array Bool) (cx : Cxr w0 w1 L R) (hil : ixs M = il) (hK : M.length + k = K)
    (hch : chkOrd ops pu = true) (hmk : mskOrd ops ls m = true) (hmk' : mskOrd ops (ls ++ il) m' = true) (hmid : midB ops ls il = true)
    (hS : (∀ w', Cxr w0 w' L R → Below w1.heap.size w1 w' → S w') ∨ (il.all fun p => lateB ops pu p.1) = true)
    (hst : ∀ x ∈ M, ∀ v w w', w1.heap.size ≤ w.heap.size → Below w.heap.size w w' → x.φ v w → x.φ v w')
    (hstep : ∀ x ∈ M, ∃ o, ops[x.i]? = some o ∧ ∀ f w, Cxr w0 w L R → Below w1.heap.size w1 w → (∀ t, il.all (fun p => !Nat.beq p.2 t) = true → f t = g t) → (∀ y ∈ M, (depsOf ops x.i).contains y.i = true → y.φ (f y.d) w) →
      wpList P ops (Fin0 fun a' w' => ∃ v, a' = St n (upd f x.d v) ∧ Below w.heap.size w w' ∧ x.φ v w') [o] (St n f) w)
    (hend : ∀ f w, Cxr w0 w L R → Below w1.heap.size w1 w → (∀ t, il.all (fun p => !Nat.beq p.2 t) = true → f t = g t) → (∀ y ∈ M, y.φ (f y.d) w) → wpX P ops pu Q S k m' (St n f) w) :
    wpX P ops pu Q S K m (St n g) w1 := by
  subst hil hK
  unfold midB at hmid
  simp only [Bool.and_eq_true, List.all_eq_true, List.mem_range, Bool.or_eq_true, Bool.not_eq_true'] at hmid
  obtain ⟨⟨⟨hM1, hM2⟩, hM3⟩, hM4⟩ := hmid
  obtain ⟨hms, hml⟩ := mskOrd_spec hmk
  obtain ⟨hms', hml'⟩ := mskOrd_spec hmk'
  have hix : ∀ {x : Mid}, x ∈ M → (x.i, x.d) ∈ ixs M := fun {x} hx => List.mem_map.2 ⟨x, hx, rfl⟩
  have hxi : ∀ {i : Nat}, anyI (ixs M) i = true → ∃ x ∈ M, x.i = i := fun {i} h => by
    obtain ⟨q, hq, rfl⟩ := anyI_iff.1 h
    obtain ⟨x, hx, rfl⟩ := List.mem_map.1 hq
    exact ⟨x, hx, rfl⟩
  have hnp : ∀ {x : Mid}, x ∈ M → anyI ls x.i = false := fun {x} hx => (hM1 _ (hix hx)).1.2
  have hdst : ∀ {x : Mid}, x ∈ M → ∀ {o : Oper}, ops[x.i]? = some o → o.dst = some x.d := fun {x} hx {o} ho => by
    have h := (hM1 _ (hix hx)).1.1
    simp only [ho] at h
    cases hd : o.dst with
    | none => rw [hd] at h; cases h
    | some d => rw [hd] at h; rw [Nat.eq_of_beq_eq_true h]
  have huniq : ∀ {x y : Mid}, x ∈ M → y ∈ M → x.d = y.d → x = y := fun {x y} hx hy he => dist_inj hM2 hx hy he
  have dst_eq : ∀ {x y : Mid}, x ∈ M → y ∈ M → x.i = y.i → ∀ {o : Oper}, ops[y.i]? = some o → x.d = y.d := fun {x y} hx hy e {o} ho => by
    have h1 := hdst hy ho
    have h2 := hdst hx (by rw [e]; exact ho)
    rw [h1] at h2; exact (Option.some.inj h2).symm
  have lk_lt : ∀ {l : Array Bool} {j : Nat}, lk l j = true → j < l.size := fun {l j} h => by
    rcases Nat.lt_or_ge j l.size with h' | h'
    · exact h'
    · unfold lk at h; simp [Array.getD, Nat.not_lt.2 h'] at h
  have key : ∀ (c : Nat) (l : Array Bool) (f : Nat → Value) (w : World), (M.filter fun x => !lk l x.i).length ≤ c → l.size = ops.size → (∀ j, j < ops.size → anyI ls j = true → lk l j = true) → (∀ j, lk l j = true → anyI ls j = true ∨ anyI (ixs M) j = true) → (∀ j, lk l j = true → ∀ e ∈ depsOf ops j, lk l e = true) →
      Cxr w0 w L R → Below w1.heap.size w1 w → (∀ t, (ixs M).all (fun p => !Nat.beq p.2 t) = true → f t = g t) → (∀ y ∈ M, lk l y.i = true → y.φ (f y.d) w) → wpX P ops pu Q S (c + k) l (St n f) w := by
    intro c
    induction c with
    | zero =>
      intro l f w hc hs h1 h2 h3 hcx hb hfix hd
      have hall : ∀ y ∈ M, lk l y.i = true := fun y hy => by
        cases h : lk l y.i with
        | true => rfl
        | false =>
          have : y ∈ M.filter fun x => !lk l x.i := List.mem_filter.2 ⟨hy, by rw [h]; rfl⟩
          have := List.length_pos_of_mem this; omega
      rw [Nat.zero_add]
      have e : l = m' := msk_ext (p := anyI (ls ++ ixs M)) (by omega) (fun i hi => by
        rw [anyI_append]
        cases h : lk l i with
        | true => rcases h2 i h with h | h <;> simp [h]
        | false =>
          cases hp : anyI ls i with
          | true => rw [h1 i (by omega) hp] at h; cases h
          | false =>
            cases hm : anyI (ixs M) i with
            | true =>
              obtain ⟨x, hx, rfl⟩ := hxi hm
              rw [hall x hx] at h; cases h
            | false => rfl) (fun i hi => hml' i (by omega))
      subst e
      exact hend f w hcx hb hfix fun y hy => hd y hy (hall y hy)
    | succ c ih =>
      intro l f w hc hs h1 h2 h3 hcx hb hfix hd
      rcases Nat.eq_zero_or_pos (M.filter fun x => !lk l x.i).length with h0 | h0
      · rw [show c + 1 + k = (c + k) + 1 by omega]
        exact wpX_mono hch _ _ _ _ (ih l f w (by omega) hs h1 h2 h3 hcx hb hfix hd)
      obtain ⟨x0, hx0⟩ := List.exists_mem_of_length_pos h0
      obtain ⟨hx0m, hx0l⟩ := List.mem_filter.1 hx0
      rw [show c + 1 + k = (c + k) + 1 by omega]
      refine ⟨fun hr => ?_, fun i hi => ?_⟩
      · exfalso
        have no : ∀ (z : Nat) (x : Mid), x ∈ M → x.i = z → lk l x.i = false → False := by
          intro z
          induction z using Nat.strongRecOn with
          | _ z ihz =>
            intro x hx hxz hxl
            have hlt : x.i < ops.size := by
              have h := (hM1 _ (hix hx)).1.1
              cases ho : ops[x.i]? with
              | none => simp [ho] at h
              | some o => exact (Array.getElem?_eq_some_iff.1 ho).1
            by_cases hdp : ∀ e ∈ depsOf ops x.i, lk l e = true
            · have : x.i ∈ Region.ready .any ops l := (ready_iff hs).2 ⟨hlt, hxl, hdp⟩
              rw [hr] at this; cases this
            · simp only [Classical.not_forall] at hdp
              obtain ⟨e, he, hel⟩ := hdp
              have hel : lk l e = false := by simpa using hel
              rcases (hM1 _ (hix hx)).2 e he with hp | hp
              · rw [h1 e (by have := chk_dep hch x.i e he; omega) hp] at hel; cases hel
              · obtain ⟨y, hy, rfl⟩ := hxi hp
                have := chk_dep hch x.i y.i he
                exact ihz y.i (by omega) y hy rfl hel
        exact no _ x0 hx0m rfl (by simpa using hx0l)
      · obtain ⟨hlt, hil, hdl⟩ := (ready_iff hs).1 hi
        have hip : anyI ls i = false := by
          cases h : anyI ls i with
          | true => rw [h1 i hlt h] at hil; cases hil
          | false => rfl
        have him : anyI (ixs M) i = true := by
          rcases hM4 i hlt with (h | h) | h
          · rw [hip] at h; cases h
          · exact h
          · have := anc_listed h3 12 x0.i i hdl (h _ (hix hx0m))
            rw [this] at hx0l; cases hx0l
        obtain ⟨x, hx, rfl⟩ := hxi him
        obtain ⟨o, ho, hrun⟩ := hstep x hx
        refine ⟨o, ho, single_mono (fun cs b => Region.noSelect_spec (chk_sel hch) x.i o cs b ho) ?_ (hrun f w hcx hb hfix fun y hy hye => hd y hy (hdl y.i (by simpa using hye)))⟩
        rintro a' w' ⟨v, rfl, hbw, hφ⟩
        have hbw1 : Below w1.heap.size w1 w' := hb.trans (hbw.mono hb.size)
        refine ⟨by
          rcases hS with h | h
          · exact .inl (h w' (hcx.call hbw) hbw1)
          · exact .inr (List.all_eq_true.1 h _ (hix hx)), ?_⟩
        have hset : ∀ j, lk (l.setIfInBounds x.i true) j = (lk l j || Nat.beq x.i j) := fun j => lk_set (by omega)
        have hfl : ∀ (N : List Mid), (N.filter fun y => !lk (l.setIfInBounds x.i true) y.i).length ≤ (N.filter fun y => !lk l y.i).length ∧ (x ∈ N → (N.filter fun y => !lk (l.setIfInBounds x.i true) y.i).length + 1 ≤ (N.filter fun y => !lk l y.i).length) := by
          intro N
          induction N with
          | nil => simp
          | cons y N ihN =>
            simp only [List.filter_cons, hset]
            by_cases hy : x.i = y.i
            · have : Nat.beq x.i y.i = true := by rw [hy]; exact Nat.beq_refl _
              rw [← hy] 
              simp only [hil, Nat.beq_refl, Bool.or_true, Bool.not_true, Bool.not_false, Bool.false_or, Bool.false_eq_true, if_false, if_true, List.length_cons]
              simp only [hset] at ihN
              exact ⟨by omega, fun _ => by omega⟩
            · have : Nat.beq x.i y.i = false := by
                cases h : Nat.beq x.i y.i with
                | true => exact absurd (Nat.eq_of_beq_eq_true h) hy
                | false => rfl
              rw [this, Bool.or_false]
              simp only [hset] at ihN
              refine ⟨by split <;> (try simp only [List.length_cons]) <;> omega, fun hm => ?_⟩
              have hm' : x ∈ N := by
                rcases List.mem_cons.1 hm with rfl | hm
                · exact absurd rfl hy
                · exact hm
              have := ihN.2 hm'
              split <;> (try simp only [List.length_cons]) <;> omega
        have hcnt := (hfl M).2 hx
        exact ih (l.setIfInBounds x.i true) (upd f x.d v) w' (by omega) (by simpa using hs) (fun j hj hp => by rw [hset, h1 j hj hp]; rfl) (fun j hj => by
            rw [hset, Bool.or_eq_true] at hj
            rcases hj with hj | hj
            · exact h2 j hj
            · rw [← Nat.eq_of_beq_eq_true hj]; exact .inr him) (fun j hj e he => by
            rw [hset, Bool.or_eq_true] at hj
            rw [hset, Bool.or_eq_true]
            rcases hj with hj | hj
            · exact .inl (h3 j hj e he)
            · rw [← Nat.eq_of_beq_eq_true hj] at he; exact .inl (hdl e he)) (hcx.call hbw) hbw1 (fun t ht => by
            have : t ≠ x.d := fun e => by
              have := List.all_eq_true.1 ht _ (hix hx)
              simp only [Bool.not_eq_true'] at this
              rw [e, Nat.beq_refl] at this; cases this
            rw [upd_ne this]; exact hfix t ht) (fun y hy hyl => by
            by_cases he : y.d = x.d
            · obtain rfl := huniq hy hx he
              rw [upd_self]; exact hφ
            · rw [upd_ne he]
              rw [hset, Bool.or_eq_true] at hyl
              refine hst y hy _ _ _ hb.size hbw (hd y hy ?_)
              rcases hyl with h | h
              · exact h
              · exact absurd (dst_eq hy hx (Nat.eq_of_beq_eq_true h).symm ho) he)
  refine key M.length m g w1 (List.length_filter_le _ _) (by omega) (fun j hj hp => by rw [hml j hj]; exact hp) (fun j hj => ?_) (fun j hj e he => ?_) cx (Below.refl _ _) (fun _ _ => rfl) (fun y hy hyl => ?_)
  · have hjs := lk_lt hj
    left; rw [← hml j (by omega)]; exact hj
  · have hjs := lk_lt hj
    have hp : anyI ls j = true := by rw [← hml j (by omega)]; exact hj
    obtain ⟨q, hq, rfl⟩ := anyI_iff.1 hp
    have := hM3 q hq e he
    rw [hml e (by have := chk_dep hch q.1 e he; omega)]; exact this
  · have hjs := lk_lt hyl
    rw [hml _ (by omega), hnp hy] at hyl; cases hyl
end
end Go.Dk

set_option linter.unusedVariables false
set_option linter.unusedSimpArgs false
namespace Go.Dk
open Go Go.RowKit
def eqO (E : V → V → Bool) : OV → OV → Bool
  | none, none => true
  | some a, some b => E a b
  | _, _ => false
def fieldO (k : ByteArray) : OV → OV
  | none => none
  | some v => if v.sc.kind = 7 then hasF k v.fields else none
def isMap : OV → Bool
  | none => false
  | some v => v.sc.kind == 7
def fsO : OV → Fs
  | none => []
  | some v => v.fields
def hasK (ks : List ByteArray) (k : ByteArray) : Bool := ks.any fun x => decide (x = k)
theorem hasK_iff {ks : List ByteArray} {k : ByteArray} : hasK ks k = true ↔ k ∈ ks := by
  unfold hasK
  rw [List.any_eq_true]
  simp
def addK (ks : List ByteArray) (k : ByteArray) : List ByteArray := if hasK ks k then ks else ks ++ [k]
def keysO (b o t : OV) : List ByteArray := (keysOf (fsO o ++ fsO t ++ fsO b)).foldl addK []
structure Cf where
  p : List Stp
  b : OV
  o : OV
  t : OV
def mgStep (M : Nat → List Stp → OV → OV → OV → OV × List Cf) (i : Nat) (p : List Stp) (b o t : OV) (s : Fs × List Cf) (k : ByteArray) : Fs × List Cf :=
  let x := M (i + s.2.length) (p ++ [keyS k]) (fieldO k b) (fieldO k o) (fieldO k t)
  (s.1 ++ (x.1.map fun v => (k, v)).toList, s.2 ++ x.2)
def mapsO (b o t : OV) : Bool := isMap o && isMap t && (b.isNone || isMap b)
/-- what is chosen, and the conflicts; i were there before -/
def mg (E : V → V → Bool) (tk : List Bool) : Nat → Nat → List Stp → OV → OV → OV → OV × List Cf
  | 0, _, _, _, o, _ => (o, [])
  | d + 1, i, p, b, o, t =>
    if eqO E o t || eqO E t b then (o, [])
    else if eqO E o b then (t, [])
    else if mapsO b o t then
      (some (mapV ((keysO b o t).foldl (mgStep (mg E tk d) i p b o t) ([], [])).1), ((keysO b o t).foldl (mgStep (mg E tk d) i p b o t) ([], [])).2)
    else (if tk.getD i false then t else o, [⟨p, b, o, t⟩])

/-! ### keys -/
theorem addK_mem {ks : List ByteArray} {k x : ByteArray} : x ∈ addK ks k ↔ x ∈ ks ∨ x = k := by
  unfold addK
  split
  · rename_i h
    exact ⟨.inl, fun h' => h'.elim id fun e => e ▸ hasK_iff.1 h⟩
  · simp
theorem addK_nodup {ks : List ByteArray} {k : ByteArray} (h : ks.Nodup) : (addK ks k).Nodup := by
  unfold addK
  split
  · exact h
  · rename_i hk
    rw [List.nodup_append]
    exact ⟨h, by simp, fun a ha b hb e => hk (hasK_iff.2 (by
      have : b = k := by simpa using hb
      rw [← this, ← e]; exact ha))⟩
theorem foldK_mem : ∀ (l ks : List ByteArray) (x : ByteArray), x ∈ l.foldl addK ks ↔ x ∈ ks ∨ x ∈ l
  | [], ks, x => by simp
  | k :: l, ks, x => by
    rw [List.foldl_cons, foldK_mem l, addK_mem, List.mem_cons, or_assoc]
theorem foldK_nodup : ∀ (l ks : List ByteArray), ks.Nodup → (l.foldl addK ks).Nodup
  | [], ks, h => h
  | k :: l, ks, h => foldK_nodup l _ (addK_nodup h)
theorem foldK_len : ∀ (l ks : List ByteArray), (l.foldl addK ks).length ≤ ks.length + l.length
  | [], ks => by simp
  | k :: l, ks => by
    have := foldK_len l (addK ks k)
    have h2 : (addK ks k).length ≤ ks.length + 1 := by unfold addK; split <;> simp
    rw [List.foldl_cons, List.length_cons]; omega
theorem keysO_nodup (b o t : OV) : (keysO b o t).Nodup := foldK_nodup _ _ List.nodup_nil
theorem keysOf_append (l l' : Fs) : keysOf (l ++ l') = keysOf l ++ keysOf l' := by unfold keysOf; rw [List.map_append]
theorem keysO_mem {b o t : OV} {k : ByteArray} : k ∈ keysO b o t ↔ k ∈ keysOf (fsO o) ∨ k ∈ keysOf (fsO t) ∨ k ∈ keysOf (fsO b) := by
  unfold keysO
  rw [foldK_mem, keysOf_append, keysOf_append, List.mem_append, List.mem_append]
  simp only [List.not_mem_nil, false_or, or_assoc]
theorem keysO_len (b o t : OV) : (keysO b o t).length ≤ (fsO o).length + (fsO t).length + (fsO b).length := by
  have := foldK_len (keysOf (fsO o ++ fsO t ++ fsO b)) []
  unfold keysO
  simp only [List.length_nil, keysOf, List.length_map, List.length_append] at this ⊢
  omega
theorem fieldO_map {k : ByteArray} {x : OV} (h : isMap x = true) : fieldO k x = hasF k (fsO x) := by
  cases x with
  | none => cases h
  | some v =>
    have : v.sc.kind = 7 := by simpa [isMap] using h
    simp only [fieldO, fsO, if_pos this]
theorem fieldO_base {k : ByteArray} {x : OV} (h : (x.isNone || isMap x) = true) : fieldO k x = hasF k (fsO x) := by
  cases x with
  | none => rfl
  | some v => exact fieldO_map (by simpa using h)
theorem mapsO_iff {b o t : OV} : mapsO b o t = true ↔ isMap o = true ∧ isMap t = true ∧ (b.isNone || isMap b) = true := by
  unfold mapsO; rw [Bool.and_eq_true, Bool.and_eq_true, and_assoc]
/-- a key's values: one of them at least -/
theorem keysO_some {b o t : OV} {k : ByteArray} (hm : mapsO b o t = true) (hk : k ∈ keysO b o t) : ((fieldO k b).isSome || (fieldO k o).isSome || (fieldO k t).isSome) = true := by
  obtain ⟨h1, h2, h3⟩ := mapsO_iff.1 hm
  rw [fieldO_map h1, fieldO_map h2, fieldO_base h3]
  rcases keysO_mem.1 hk with h | h | h
  · rw [hasF_isSome.2 h]; simp
  · rw [hasF_isSome.2 h]; simp
  · rw [hasF_isSome.2 h]; simp

/-! ### good values -/
def GdO (d m : Nat) (x : OV) : Prop := ∀ v, x = some v → Gd d m v
theorem GdO.some {d m : Nat} {v : V} (h : Gd d m v) : GdO d m (some v) := fun u e => by cases e; exact h
theorem GdO.none {d m : Nat} : GdO d m none := fun u e => by cases e
theorem GdO.field {d m : Nat} {x : OV} (h : GdO (d + 1) m x) (k : ByteArray) : GdO d m (fieldO k x) := fun v e => by
  cases x with
  | none => cases e
  | some u =>
    simp only [fieldO] at e
    split at e
    · exact ((h u rfl).field (hasF_mem e)).2
    · cases e
theorem GdO.fsLen {d m : Nat} {x : OV} (h : GdO d m x) : (fsO x).length ≤ m := by
  cases x with
  | none => simp [fsO]
  | some u => exact ((h u rfl).nw 1).1
theorem GdO.key {d m : Nat} {x : OV} (h : GdO (d + 1) m x) {k : ByteArray} (hk : k ∈ keysOf (fsO x)) : k.size ≤ 1048576 := by
  cases x with
  | none => simp [fsO, keysOf] at hk
  | some u =>
    obtain ⟨kv, hkv, rfl⟩ := List.mem_map.1 hk
    exact ((h u rfl).field hkv).1
theorem keysO_size {d m : Nat} {b o t : OV} (hb : GdO (d + 1) m b) (ho : GdO (d + 1) m o) (ht : GdO (d + 1) m t) {k : ByteArray} (hk : k ∈ keysO b o t) : k.size ≤ 1048576 := by
  rcases keysO_mem.1 hk with h | h | h
  · exact ho.key h
  · exact ht.key h
  · exact hb.key h
/-- what the keys gone over have left -/
theorem fold_keys (M : Nat → List Stp → OV → OV → OV → OV × List Cf) (i : Nat) (p : List Stp) (b o t : OV) : ∀ (ks : List ByteArray) (s : Fs × List Cf), ∃ l, (ks.foldl (mgStep M i p b o t) s).1 = s.1 ++ l ∧ (keysOf l).Sublist ks ∧ ∀ kv ∈ l, ∃ j pp, (M j pp (fieldO kv.1 b) (fieldO kv.1 o) (fieldO kv.1 t)).1 = some kv.2
  | [], s => ⟨[], by simp, by simp [keysOf], by simp⟩
  | k :: ks, s => by
    obtain ⟨l, h1, h2, h3⟩ := fold_keys M i p b o t ks (mgStep M i p b o t s k)
    rw [List.foldl_cons, h1]
    cases hx : (M (i + s.2.length) (p ++ [keyS k]) (fieldO k b) (fieldO k o) (fieldO k t)).1 with
    | none =>
      refine ⟨l, ?_, h2.cons k, h3⟩
      simp only [mgStep, hx, Option.map_none, Option.toList_none, List.append_nil]
    | some v =>
      refine ⟨(k, v) :: l, ?_, ?_, ?_⟩
      · simp only [mgStep, hx, Option.map_some, Option.toList_some, List.append_assoc, List.singleton_append]
      · exact h2.cons_cons k
      · intro kv hkv
        rcases List.mem_cons.1 hkv with rfl | hkv
        · exact ⟨_, _, hx⟩
        · exact h3 kv hkv
theorem mg_gd (E : V → V → Bool) (tk : List Bool) {m : Nat} (hm : 3 * m ≤ 1048576) : ∀ (d i : Nat) (p : List Stp) (b o t : OV), GdO d m b → GdO d m o → GdO d m t → GdO d (3 * m) (mg E tk d i p b o t).1
  | 0, i, p, b, o, t, hb, ho, ht => fun v e => (ho v e).mono (by omega)
  | d + 1, i, p, b, o, t, hb, ho, ht => by
    have up : ∀ {x : OV}, GdO (d + 1) m x → GdO (d + 1) (3 * m) x := fun h v e => (h v e).mono (by omega)
    unfold mg
    split
    · exact up ho
    · split
      · exact up ht
      · split
        · obtain ⟨l, h1, h2, h3⟩ := fold_keys (mg E tk d) i p b o t (keysO b o t) ([], [])
          rw [List.nil_append] at h1
          have hl := h2.length_le
          have hk := keysO_len b o t
          have hlb := hb.fsLen
          have hlo := ho.fsLen
          have hlt := ht.fsLen
          rw [show (keysOf l).length = l.length by simp [keysOf]] at hl
          refine GdO.some ?_
          rw [h1]
          refine gd_mapV (h2.nodup (keysO_nodup b o t)) (fun kv hkv => ?_) (by omega) (by omega)
          obtain ⟨j, pp, hj⟩ := h3 kv hkv
          exact ⟨keysO_size hb ho ht (h2.subset (List.mem_map.2 ⟨kv, hkv, rfl⟩)), mg_gd E tk hm d j pp _ _ _ (hb.field _) (ho.field _) (ht.field _) _ hj⟩
        · dsimp only
          split
          · exact up ht
          · exact up ho
/-! ### how many conflicts -/
def tO (d : Nat) : OV → Nat
  | none => 0
  | some v => tsz d v
theorem sum_one {a : ByteArray} {c : Nat} : ∀ (ks : List ByteArray), ks.Nodup → (ks.map fun k => if a = k then c else 0).sum ≤ c
  | [], _ => by simp
  | k :: ks, h => by
    rw [List.map_cons, List.sum_cons]
    obtain ⟨h1, h2⟩ := List.nodup_cons.1 h
    by_cases hk : a = k
    · rw [if_pos hk]
      have : (ks.map fun k => if a = k then c else 0).sum = 0 := by
        have hz : ∀ (l : List ByteArray), a ∉ l → (l.map fun k => if a = k then c else 0).sum = 0 := by
          intro l
          induction l with
          | nil => simp
          | cons y l ih =>
            intro hn
            rw [List.mem_cons, not_or] at hn
            rw [List.map_cons, List.sum_cons, if_neg hn.1, ih hn.2]
        exact hz ks (hk ▸ h1)
      omega
    · rw [if_neg hk]
      have := sum_one (a := a) (c := c) ks h2
      omega
theorem sum_le {α : Type} {f g : α → Nat} (h : ∀ x, f x ≤ g x) : ∀ l : List α, (l.map f).sum ≤ (l.map g).sum
  | [] => Nat.le_refl _
  | x :: l => by have := h x; have := sum_le h l; simp only [List.map_cons, List.sum_cons]; omega
theorem sum_add {α : Type} {f g : α → Nat} : ∀ l : List α, (l.map fun x => f x + g x).sum = (l.map f).sum + (l.map g).sum
  | [] => rfl
  | x :: l => by have := sum_add (f := f) (g := g) l; simp only [List.map_cons, List.sum_cons]; omega
theorem sum_zero {α : Type} : ∀ l : List α, (l.map fun _ => 0).sum = 0
  | [] => rfl
  | _ :: l => by rw [List.map_cons, List.sum_cons, sum_zero l]
theorem sum_keys (d : Nat) {ks : List ByteArray} (hk : ks.Nodup) : ∀ fs : Fs, (ks.map fun k => tO d (hasF k fs)).sum ≤ (fs.map fun kv => tsz d kv.2).sum
  | [] => by
    have : (ks.map fun k => tO d (hasF k [])) = ks.map fun _ => 0 := by simp [hasF, tO]
    rw [this, sum_zero]; simp
  | kv :: fs => by
    rw [List.map_cons, List.sum_cons]
    refine Nat.le_trans (sum_le (g := fun k => (if kv.1 = k then tsz d kv.2 else 0) + tO d (hasF k fs)) (fun k => ?_) ks) ?_
    · unfold hasF
      rw [List.find?_cons]
      by_cases h : kv.1 = k
      · simp [h, tO]
      · simp [h]
    · rw [sum_add]
      have h1 := sum_one (a := kv.1) (c := tsz d kv.2) ks hk
      have h2 := sum_keys d hk fs
      omega
theorem sum_fieldO (d : Nat) {ks : List ByteArray} (hk : ks.Nodup) (x : OV) : (ks.map fun k => tO d (fieldO k x)).sum ≤ tO (d + 1) x := by
  cases x with
  | none =>
    have : (ks.map fun k => tO d (fieldO k none)) = ks.map fun _ => 0 := by simp [fieldO, tO]
    rw [this, sum_zero]; simp [tO]
  | some v =>
    by_cases h7 : v.sc.kind = 7
    · have e : (ks.map fun k => tO d (fieldO k (some v))) = ks.map fun k => tO d (hasF k v.fields) := by simp only [fieldO, if_pos h7]
      rw [e]
      have := sum_keys d hk v.fields
      have h2 : tO (d + 1) (some v) = 1 + ((v.list.map (tsz d)).sum + (v.fields.map fun kv => tsz d kv.2).sum) := rfl
      rw [h2]; omega
    · have e : (ks.map fun k => tO d (fieldO k (some v))) = ks.map fun _ => 0 := by simp only [fieldO, if_neg h7, tO]
      rw [e, sum_zero]; exact Nat.zero_le _
theorem fold_cnt (M : Nat → List Stp → OV → OV → OV → OV × List Cf) (i : Nat) (p : List Stp) (b o t : OV) {c : ByteArray → Nat} (hM : ∀ k j pp, (M j pp (fieldO k b) (fieldO k o) (fieldO k t)).2.length ≤ c k) : ∀ (ks : List ByteArray) (s : Fs × List Cf), (ks.foldl (mgStep M i p b o t) s).2.length ≤ s.2.length + (ks.map c).sum
  | [], s => by simp
  | k :: ks, s => by
    have h1 := fold_cnt M i p b o t hM ks (mgStep M i p b o t s k)
    have h2 := hM k (i + s.2.length) (p ++ [keyS k])
    rw [List.foldl_cons, List.map_cons, List.sum_cons]
    have h3 : (mgStep M i p b o t s k).2.length = s.2.length + (M (i + s.2.length) (p ++ [keyS k]) (fieldO k b) (fieldO k o) (fieldO k t)).2.length := by simp only [mgStep, List.length_append]
    omega
theorem mg_cnt (E : V → V → Bool) (tk : List Bool) : ∀ (d i : Nat) (p : List Stp) (b o t : OV), (mg E tk d i p b o t).2.length ≤ tO d b + tO d o + tO d t
  | 0, i, p, b, o, t => by simp [mg]
  | d + 1, i, p, b, o, t => by
    unfold mg
    split
    · simp
    · rename_i h1
      split
      · simp
      · split
        · have h := fold_cnt (mg E tk d) i p b o t (c := fun k => tO d (fieldO k b) + tO d (fieldO k o) + tO d (fieldO k t)) (fun k j pp => mg_cnt E tk d j pp _ _ _) (keysO b o t) ([], [])
          rw [sum_add (f := fun k => tO d (fieldO k b) + tO d (fieldO k o)), sum_add] at h
          have hn := keysO_nodup b o t
          have h2 := sum_fieldO d hn b
          have h3 := sum_fieldO d hn o
          have h4 := sum_fieldO d hn t
          simp only [List.length_nil] at h
          dsimp only
          omega
        · cases o with
          | none =>
            cases t with
            | none => simp [eqO] at h1
            | some v => have := tsz_pos (d + 1) v; simp only [tO, List.length_singleton]; omega
          | some v => have := tsz_pos (d + 1) v; simp only [tO, List.length_singleton]; omega
/-- the conflicts before the i-th key -/
theorem fold_cnt_take (M : Nat → List Stp → OV → OV → OV → OV × List Cf) (i : Nat) (p : List Stp) (b o t : OV) {ks : List ByteArray} {j : Nat} (hj : j < ks.length) :
    let s := (ks.take j).foldl (mgStep M i p b o t) ([], [])
    s.2.length + (M (i + s.2.length) (p ++ [keyS ks[j]]) (fieldO ks[j] b) (fieldO ks[j] o) (fieldO ks[j] t)).2.length ≤ (ks.foldl (mgStep M i p b o t) ([], [])).2.length := by
  intro s
  have mono : ∀ (l : List ByteArray) (u : Fs × List Cf), u.2.length ≤ (l.foldl (mgStep M i p b o t) u).2.length := by
    intro l
    induction l with
    | nil => intro u; exact Nat.le_refl _
    | cons k l ih => intro u; rw [List.foldl_cons]; refine Nat.le_trans ?_ (ih _); simp only [mgStep, List.length_append]; omega
  have e : ks = ks.take j ++ ks[j] :: ks.drop (j + 1) := by rw [← List.drop_eq_getElem_cons hj, List.take_append_drop]
  have h := mono (ks.drop (j + 1)) (mgStep M i p b o t s ks[j])
  have h2 : (ks.foldl (mgStep M i p b o t) ([], [])) = (ks.drop (j + 1)).foldl (mgStep M i p b o t) (mgStep M i p b o t s ks[j]) := by
    conv => lhs; rw [e]
    rw [List.foldl_append, List.foldl_cons]
  rw [h2]
  refine Nat.le_trans (Nat.le_of_eq ?_) h
  simp only [mgStep, List.length_append]
theorem fold_len_take (M : Nat → List Stp → OV → OV → OV → OV × List Cf) (i : Nat) (p : List Stp) (b o t : OV) (ks : List ByteArray) : (ks.foldl (mgStep M i p b o t) ([], [])).1.length ≤ ks.length := by
  obtain ⟨l, h1, h2, _⟩ := fold_keys M i p b o t ks ([], [])
  have := h2.length_le
  rw [h1, List.nil_append]
  simpa [keysOf] using this
end Go.Dk

set_option linter.unusedVariables false
set_option linter.unusedSimpArgs false
namespace Go.Dk
open Go Go.RowKit
section
variable {α : Type} {φ ψ : α → List Value → Prop}
/-- rows that hold the elements of a list -/
def Rws (φ : α → List Value → Prop) : List α → List (List Value) → Prop
  | [], [] => True
  | a :: l, r :: rs => φ a r ∧ Rws φ l rs
  | _, _ => False
theorem Rws.imp (h : ∀ a r, φ a r → ψ a r) : ∀ {l : List α} {rs : List (List Value)}, Rws φ l rs → Rws ψ l rs
  | [], [], _ => trivial
  | _ :: _, _ :: _, h' => ⟨h _ _ h'.1, Rws.imp h h'.2⟩
  | [], _ :: _, h' => h'.elim
  | _ :: _, [], h' => h'.elim
theorem Rws.append : ∀ {l l' : List α} {rs rs' : List (List Value)}, Rws φ l rs → Rws φ l' rs' → Rws φ (l ++ l') (rs ++ rs')
  | [], _, [], _, _, h' => h'
  | _ :: _, _, _ :: _, _, h, h' => ⟨h.1, Rws.append h.2 h'⟩
  | [], _, _ :: _, _, h, _ => h.elim
  | _ :: _, _, [], _, h, _ => h.elim
theorem Rws.flat {k : Nat} (hl : ∀ a r, φ a r → r.length = k) : ∀ {l : List α} {rs : List (List Value)}, Rws φ l rs → rs.flatten.length = l.length * k ∧ rs.length = l.length
  | [], [], _ => by simp
  | a :: l, r :: rs, h => by
    obtain ⟨h1, h2⟩ := Rws.flat hl h.2
    have := hl _ _ h.1
    rw [List.flatten_cons, List.length_append, h1, this, List.length_cons, List.length_cons, h2, Nat.add_mul]
    omega
  | [], _ :: _, h => h.elim
  | _ :: _, [], h => h.elim
theorem Rws.lens {k : Nat} (hl : ∀ a r, φ a r → r.length = k) : ∀ {l : List α} {rs : List (List Value)}, Rws φ l rs → ∀ r ∈ rs, r.length = k
  | [], [], _, r, hr => by cases hr
  | a :: l, x :: rs, h, r, hr => by
    rcases List.mem_cons.1 hr with rfl | hr
    · exact hl _ _ h.1
    · exact Rws.lens hl h.2 r hr
  | [], _ :: _, h, _, _ => h.elim
  | _ :: _, [], h, _, _ => h.elim
theorem Rws.one (h1 : ∀ a r, φ a r → r.all (·.oneCell') = true) : ∀ {l : List α} {rs : List (List Value)}, Rws φ l rs → rs.flatten.all (·.oneCell') = true
  | [], [], _ => rfl
  | a :: l, r :: rs, h => by rw [List.flatten_cons, List.all_append, h1 _ _ h.1, Rws.one h1 h.2]; rfl
  | [], _ :: _, h => h.elim
  | _ :: _, [], h => h.elim
theorem Rws.at : ∀ {l : List α} {rs : List (List Value)} {i : Nat} {a : α}, Rws φ l rs → l[i]? = some a → ∃ r, rs[i]? = some r ∧ φ a r
  | [], [], i, a, _, h => by simp at h
  | x :: l, r :: rs, 0, a, h, ha => by
    obtain rfl : x = a := by simpa using ha
    exact ⟨r, rfl, h.1⟩
  | x :: l, r :: rs, i + 1, a, h, ha => by
    obtain ⟨r', h1, h2⟩ := Rws.at h.2 (by simpa using ha)
    exact ⟨r', by simpa using h1, h2⟩
  | [], _ :: _, _, _, h, _ => h.elim
  | _ :: _, [], _, _, h, _ => h.elim
theorem flat_atk {k : Nat} : ∀ (rs : List (List Value)) (j : Nat) (r : List Value), (∀ r ∈ rs, r.length = k) → rs[j]? = some r → (rs.flatten.drop (j * k)).take r.length = r
  | [], j, r, _, h => by simp at h
  | x :: rs, 0, r, hl, h => by
    simp at h; subst h
    simp
  | x :: rs, j + 1, r, hl, h => by
    have h1 : x.length = k := hl x (by simp)
    rw [List.flatten_cons, show (j + 1) * k = x.length + j * k by rw [Nat.add_mul, h1]; omega, List.drop_append, List.drop_eq_nil_of_le (by omega), List.nil_append, show x.length + j * k - x.length = j * k by omega]
    exact flat_atk rs j r (fun r hr => hl r (List.mem_cons_of_mem _ hr)) (by simpa using h)
theorem Rws.rowAt {k : Nat} (hl : ∀ a r, φ a r → r.length = k) {l : List α} {rs : List (List Value)} {i : Nat} {a : α} {w : World} {g o : Nat} (h : Rws φ l rs) (hr : RowAt w g o rs.flatten) (ha : l[i]? = some a) : ∃ r, RowAt w g (o + i * k) r ∧ φ a r := by
  obtain ⟨r, h1, h2⟩ := h.at ha
  exact ⟨r, hr.sub (i * k) (flat_atk rs i r (h.lens hl) h1), h2⟩
end

/-! ### conflicts -/
def cfA (A : Nat → Prop) (w : World) (c : Cf) (r : List Value) : Prop := ∃ ps bs os ts, r = [ps, bs, os, ts] ∧ PthA A w ps c.p ∧ RepL A w bs c.b.toList ∧ RepL A w os c.o.toList ∧ RepL A w ts c.t.toList
theorem cfA.mono {A A' : Nat → Prop} {w w' : World} (hA : ∀ b, A b → A' b) (hk : Keeps A w w') {c : Cf} {r : List Value} (h : cfA A w c r) : cfA A' w' c r := by
  obtain ⟨ps, bs, os, ts, e, h1, h2, h3, h4⟩ := h
  exact ⟨ps, bs, os, ts, e, h1.mono hA hk, h2.mono hA hk, h3.mono hA hk, h4.mono hA hk⟩
theorem cfA.len {A : Nat → Prop} {w : World} (c : Cf) (r : List Value) (h : cfA A w c r) : r.length = 4 := by
  obtain ⟨ps, bs, os, ts, rfl, _⟩ := h; rfl
theorem cfA.one {A : Nat → Prop} {w : World} (c : Cf) (r : List Value) (h : cfA A w c r) : r.all (·.oneCell') = true := by
  obtain ⟨ps, bs, os, ts, rfl, h1, h2, h3, h4⟩ := h
  simp only [List.all_cons, List.all_nil, h1.one, h2.one, h3.one, h4.one]; rfl
theorem Fz.cfs {w w' : World} {L L' : List (Nat × Obj)} {R R' : List Row} (hz : Fz w L R w' L' R') {l : List Cf} {rs : List (List Value)} (h : Rws (cfA (F w L R) w) l rs) : Rws (cfA (F w' L' R') w') l rs := h.imp fun _ _ h => h.mono hz.up hz.kp

/-! ### maps that count strings -/
def idxK (ks : List ByteArray) (k : ByteArray) : Nat := ks.findIdx fun x => decide (x = k)
def ents : List ByteArray → (ByteArray → Int) → Nat → List MapEntry
  | [], _, _ => []
  | k :: ks, c, n => ⟨.string k, .int .i64 (c k), n⟩ :: ents ks c (n + 1)
def updC (c : ByteArray → Int) (k : ByteArray) (v : Int) : ByteArray → Int := fun x => if x = k then v else c x
theorem ba_beq (a b : ByteArray) : (a == b) = decide (a = b) := by
  rw [Bool.eq_iff_iff, decide_eq_true_eq]
  cases a; cases b
  constructor
  · intro h
    exact congrArg ByteArray.mk (eq_of_beq (show ((_ : Array UInt8) == _) = true from h))
  · intro h
    cases h
    exact beq_self_eq_true (α := Array UInt8) _
theorem find_ents (k : ByteArray) : ∀ (ks : List ByteArray) (c : ByteArray → Int) (n j : Nat), Instr.findNow .string (.string k) (ents ks c n) j = some (if hasK ks k then some (j + idxK ks k, .int .i64 (c k)) else none)
  | [], c, n, j => rfl
  | x :: ks, c, n, j => by
    have ih := find_ents k ks c (n + 1) (j + 1)
    unfold ents Instr.findNow
    simp only [Instr.sameNow]
    by_cases h : x = k
    · subst h
      rw [ba_beq, decide_eq_true rfl]
      simp [hasK, idxK, List.findIdx_cons]
    · have h2 : (k == x) = false := by rw [ba_beq]; exact decide_eq_false fun e => h e.symm
      rw [h2]
      simp only [ih]
      have e1 : hasK (x :: ks) k = hasK ks k := by simp [hasK, h]
      have e2 : idxK (x :: ks) k = idxK ks k + 1 := by simp [idxK, List.findIdx_cons, h]
      rw [e1, e2, show j + 1 + idxK ks k = j + (idxK ks k + 1) by omega]
theorem ents_len : ∀ (ks : List ByteArray) (c : ByteArray → Int) (n : Nat), (ents ks c n).length = ks.length
  | [], _, _ => rfl
  | k :: ks, c, n => by simp [ents, ents_len ks c (n + 1)]
theorem ents_congr {c c' : ByteArray → Int} : ∀ (ks : List ByteArray) (n : Nat), (∀ k ∈ ks, c k = c' k) → ents ks c n = ents ks c' n
  | [], _, _ => rfl
  | k :: ks, n, h => by
    unfold ents
    rw [h k (by simp), ents_congr ks (n + 1) fun x hx => h x (List.mem_cons_of_mem _ hx)]
theorem ents_at (k : ByteArray) : ∀ (ks : List ByteArray) (c : ByteArray → Int) (n : Nat), hasK ks k = true → (ents ks c n)[idxK ks k]?.map (·.key) = some (.string k)
  | [], c, n, h => by simp [hasK] at h
  | x :: ks, c, n, h => by
    by_cases hx : x = k
    · subst hx
      simp [idxK, ents, List.findIdx_cons]
    · have e2 : idxK (x :: ks) k = idxK ks k + 1 := by simp [idxK, List.findIdx_cons, hx]
      rw [e2]
      have := ents_at k ks c (n + 1) (by simpa [hasK, hx] using h)
      simpa [ents] using this
theorem ents_set (k : ByteArray) (v : Int) : ∀ (ks : List ByteArray) (c : ByteArray → Int) (n : Nat), ks.Nodup → hasK ks k = true → (ents ks c n).modify (idxK ks k) (fun e => { e with key := .string k, val := .int .i64 v }) = ents ks (updC c k v) n
  | [], c, n, _, h => by simp [hasK] at h
  | x :: ks, c, n, hn, h => by
    obtain ⟨h1, h2⟩ := List.nodup_cons.1 hn
    by_cases hx : x = k
    · subst hx
      have e0 : idxK (x :: ks) x = 0 := by simp [idxK, List.findIdx_cons]
      rw [e0]
      show _ :: ents ks c (n + 1) = _ :: ents ks (updC c x v) (n + 1)
      rw [ents_congr (c := c) (c' := updC c x v) ks (n + 1) fun y hy => by
        unfold updC; rw [if_neg]; rintro rfl; exact h1 hy]
      simp [updC]
    · have e2 : idxK (x :: ks) k = idxK ks k + 1 := by simp [idxK, List.findIdx_cons, hx]
      rw [e2]
      have := ents_set k v ks c (n + 1) h2 (by simpa [hasK, hx] using h)
      simp only [ents, List.modify_succ_cons, this]
      simp [updC, hx]
theorem ents_push (k : ByteArray) (v : Int) : ∀ (ks : List ByteArray) (c : ByteArray → Int) (n : Nat), hasK ks k = false → ents ks c n ++ [⟨.string k, .int .i64 v, n + ks.length⟩] = ents (ks ++ [k]) (updC c k v) n
  | [], c, n, _ => by simp [ents, updC]
  | x :: ks, c, n, h => by
    have hx : x ≠ k := by rintro rfl; simp [hasK] at h
    have := ents_push k v ks c (n + 1) (by simpa [hasK, hx] using h)
    rw [List.cons_append]
    unfold ents
    rw [List.cons_append, ← this]
    simp [updC, hx]
    omega
section
variable {P : Program} {ops : Array Oper} {Q : Exit → Act → World → Prop} {rest : List Oper} {o : Oper} {n : Nat} {f : Nat → Value} {w w0 : World} {L : List (Nat × Obj)} {R : List Row} {ρ : Operand → Value}
theorem s_makeMap {d : Nat} {t : TypeId} (cx : Cxr w0 w L R) (hg : o.guard = none) (hd : o.dst = some d) (ho : o.op = .makeMap t none)
    (h : ∀ b w', Cxr w0 w' ((b, .map (ents [] (fun _ => 0) 0).toArray 0) :: L) R → w.heap.size = b → Below w.heap.size w w' → wpList P ops Q rest (St n (upd f d (.map (some b)))) w') : wpList P ops Q (o :: rest) (St n f) w := by
  refine s_new (w' := w.alloc (.map (ents [] (fun _ => 0) 0).toArray 0)) (v := .map (some w.heap.size)) hg hd ?_ (h _ _ (cx.alloc _) rfl ((Below.refl _ _).alloc (Nat.le_refl _) _))
  unfold execOp; rw [ho]
  simp [Instr.makeMap, ents]
theorem run_checkStr {kt : TypeId} {k : ByteArray} (e : Bool) (hk : P.underlying kt = some .string) : (Instr.checkKey e 10000 kt (.string k)).run P w = .ok () w := by
  rw [show (10000 : Nat) = 9999 + 1 from rfl, Instr.checkKey]
  simp [run_underlying hk]
theorem run_findKey {kt : TypeId} {k : ByteArray} {ks : List ByteArray} {c : ByteArray → Int} {m : Nat} (hk : P.underlying kt = some .string) : (Instr.findKey kt (.string k) (ents ks c m)).run P w = .ok (if hasK ks k then some (idxK ks k, .int .i64 (c k)) else none) w := by
  have := find_ents k ks c m 0
  rw [Nat.zero_add] at this
  simp [Instr.findKey, run_underlying hk, this]
theorem v_lookupS {t kt et : TypeId} {x y : Operand} {b m : Nat} {k : ByteArray} {ks : List ByteArray} {c : ByteArray → Int} (ho : o.op = .lookup t x y false) (hx : ρ x = .map (some b)) (hy : ρ y = .string k) (ht : P.underlying t = some (.map kt et)) (hk : P.underlying kt = some .string)
    (hz : (zeroValue et).run P w = .ok (.int .i64 0) w) (hb : w.heap[b]? = some (.map (ents ks c 0).toArray m)) : (execOp ρ o).run P w = .ok (.value (.int .i64 (if hasK ks k then c k else 0))) w := by
  unfold execOp; rw [ho]
  simp only [hx, hy]
  have h1 := MapKept.run_getObj_map (P := P) hb
  have h2 := fun e => run_checkStr (P := P) (w := w) (k := k) e hk
  have h3 := run_findKey (P := P) (w := w) (k := k) (ks := ks) (c := c) (m := 0) hk
  by_cases hh : hasK ks k = true
  · rw [if_pos hh] at h3 ⊢
    simp [Instr.lookup, run_underlying ht, h1, h2, h3, Result.andThen]
  · rw [if_neg hh] at h3 ⊢
    simp [Instr.lookup, run_underlying ht, h1, h2, h3, hz, Result.andThen]
theorem s_mapSet {t kt et : TypeId} {x y z : Operand} {b : Nat} {k : ByteArray} {ks : List ByteArray} {c : ByteArray → Int} {v : Int} (cx : Cxr w0 w L R) (i : Nat) (hg : o.guard = none) (hd : o.dst = none) (ho : o.op = .mapUpdate t x y z) (hx : ev n f x = .map (some b)) (hy : ev n f y = .string k) (hz : ev n f z = .int .i64 v)
    (ht : P.underlying t = some (.map kt et)) (hk : P.underlying kt = some .string) (hn : ks.Nodup) (hi : L[i]? = some (b, .map (ents ks c 0).toArray ks.length))
    (h : ∀ w', Cxr w0 w' (L.set i (b, .map (ents (addK ks k) (updC c k v) 0).toArray (addK ks k).length)) R → w.grownBy w' (some b) → wpList P ops Q rest (St n f) w') : wpList P ops Q (o :: rest) (St n f) w := by
  have hb := cx.at i hi
  have hlt : b < w.heap.size := (Array.getElem?_eq_some_iff.1 hb).1
  have h1 := MapKept.run_getObj_map (P := P) hb
  have h2 := run_checkStr (P := P) (w := w) (k := k) false hk
  have h3 := run_findKey (P := P) (w := w) (k := k) (ks := ks) (c := c) (m := 0) hk
  have hset : ∀ o', (setObj b o').run P w = .ok () { w with heap := w.heap.setIfInBounds b o' } := fun o' => MapKept.run_setObj_map o' hb
  have hgr : ∀ o', w.grownBy { w with heap := w.heap.setIfInBounds b o' } (some b) := fun o' => ⟨rfl, rfl, rfl, by simp, fun q _ hne => by
    show (w.heap.setIfInBounds b o')[q]? = _
    rw [Array.getElem?_setIfInBounds_ne (fun e => hne (by rw [e]))]⟩
  have hcx : ∀ o', Cxr w0 { w with heap := w.heap.setIfInBounds b o' } (L.set i (b, o')) R := fun o' => cx.turn i hi rfl rfl rfl (by simp) (by
    show (w.heap.setIfInBounds b o')[b]? = _
    simp [hlt]) fun q _ hne => by
      show (w.heap.setIfInBounds b o')[q]? = _
      rw [Array.getElem?_setIfInBounds_ne (Ne.symm hne)]
  by_cases hh : hasK ks k = true
  · rw [if_pos hh] at h3
    have e1 : addK ks k = ks := by unfold addK; rw [if_pos hh]
    have hkey := ents_at k ks c 0 hh
    have hst : (Instr.keyThatStays (.string k) (.string k)).run P w = .ok (.string k) w := by simp [Instr.keyThatStays, Instr.sameBits, ba_beq]
    have e2 : (ents ks c 0).toArray.modify (idxK ks k) (fun e => { e with key := .string k, val := .int .i64 v }) = (ents ks (updC c k v) 0).toArray := by
      rw [← ents_set k v ks c 0 hn hh]; simp
    refine s_put hg hd ?_ (h _ (by rw [e1]; exact hcx (.map (ents ks (updC c k v) 0).toArray ks.length)) (hgr _))
    unfold execOp; rw [ho]
    have hkey' : ((ents ks c 0)[idxK ks k]?.map (·.key)).getD (.string k) = .string k := by rw [hkey]; rfl
    simp [hx, hy, hz, Instr.mapUpdate, run_underlying ht, h1, h2, h3, hkey', hst, hset, Result.andThen]
    rw [ents_set k v ks c 0 hn hh]
  · rw [if_neg hh] at h3
    have hh' : hasK ks k = false := by simpa using hh
    have e1 : addK ks k = ks ++ [k] := by unfold addK; rw [if_neg hh]
    have e2 : (ents ks c 0).toArray.push ⟨.string k, .int .i64 v, ks.length⟩ = (ents (ks ++ [k]) (updC c k v) 0).toArray := by
      rw [← ents_push k v ks c 0 hh']; simp
    refine s_put hg hd ?_ (h _ (by rw [e1, List.length_append]; exact hcx (.map (ents (ks ++ [k]) (updC c k v) 0).toArray (ks.length + 1))) (hgr _))
    unfold execOp; rw [ho]
    simp [hx, hy, hz, Instr.mapUpdate, run_underlying ht, h1, h2, h3, hset, Result.andThen]
    simp only [← e2]
    simp
end
end Go.Dk
