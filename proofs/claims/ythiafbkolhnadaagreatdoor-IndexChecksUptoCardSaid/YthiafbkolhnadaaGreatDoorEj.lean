/-
  Regions that draw their order: a run in any order comes to where the reckoned run came.
-/
import Derived.Test.YthiafbkolhnadaaGreatDoorEi
set_option linter.unusedVariables false
set_option linter.unusedSimpArgs false
namespace Go.Ev
open Go Go.RowKit Go.Dk

/-- the numbered places below n -/
def rs (m : LM) (n : Nat) : LM := fun i => if i < n then m i else none
theorem rs_le {m : LM} {n k : Nat} (h : n ≤ k) : Le (rs m n) (rs m k) := by
  intro i l hi
  unfold rs at *
  split at hi
  · rw [if_pos (by omega)]; exact hi
  · cases hi
theorem rs_mono {m m' : LM} {n : Nat} (h : Le m m') : Le (rs m n) (rs m' n) := by
  intro i l hi
  unfold rs at *
  split at hi
  · rename_i hlt; rw [if_pos hlt]; exact h i l hi
  · cases hi
theorem rs_sub (m : LM) (n : Nat) : Le (rs m n) m := by
  intro i l hi
  unfold rs at hi
  split at hi
  · exact hi
  · cases hi
theorem rs_dom (m : LM) (n : Nat) : Dom (rs m n) n := by
  intro i l hi
  unfold rs at hi
  split at hi
  · assumption
  · cases hi
theorem rs_get {m : LM} {n i : Nat} {l : Lc} (h : m i = some l) (hi : i < n) : rs m n i = some l := by unfold rs; rw [if_pos hi]; exact h
theorem rs_some {m : LM} {n i : Nat} {l : Lc} (h : rs m n i = some l) : m i = some l ∧ i < n := ⟨rs_sub m n i l h, rs_dom m n i l h⟩

section
variable {P : Program} {ops : Array Oper} {sz : Nat}
/-- records one after the other -/
def TrOk (P : Program) (ops : Array Oper) (sz : Nat) : Sg → List Rec → Sg → Prop
  | s, [], s' => s' = s
  | s, r :: l, s' => r.pre = s ∧ RecOk P ops sz r ∧ TrOk P ops sz r.post l s'
theorem TrOk.append : ∀ {l1 l2 : List Rec} {s s' : Sg}, TrOk P ops sz s (l1 ++ l2) s' → ∃ s1, TrOk P ops sz s l1 s1 ∧ TrOk P ops sz s1 l2 s'
  | [], l2, s, s', h => ⟨s, rfl, h⟩
  | r :: l1, l2, s, s', h => by
    obtain ⟨h1, h2, h3⟩ := h
    obtain ⟨s1, h4, h5⟩ := TrOk.append h3
    exact ⟨s1, ⟨h1, h2, h4⟩, h5⟩
theorem TrOk.join : ∀ {l1 l2 : List Rec} {s s1 s' : Sg}, TrOk P ops sz s l1 s1 → TrOk P ops sz s1 l2 s' → TrOk P ops sz s (l1 ++ l2) s'
  | [], l2, s, s1, s', h, h' => by
    have : s1 = s := h
    subst this; exact h'
  | r :: l1, l2, s, s1, s', h, h' => by
    obtain ⟨h1, h2, h3⟩ := h
    exact ⟨h1, h2, TrOk.join h3 h'⟩
theorem TrOk.split {l1 l2 : List Rec} {r : Rec} {s s' : Sg} (h : TrOk P ops sz s (l1 ++ r :: l2) s') : TrOk P ops sz s l1 r.pre ∧ RecOk P ops sz r ∧ TrOk P ops sz r.post l2 s' := by
  obtain ⟨s1, h1, h2, h3, h4⟩ := h.append
  subst h2
  exact ⟨h1, h3, h4⟩
theorem TrOk.le : ∀ {l : List Rec} {s s' : Sg}, TrOk P ops sz s l s' → s.n ≤ s'.n
  | [], s, s', h => by have : s' = s := h; rw [this]; exact Nat.le_refl _
  | r :: l, s, s', h => by
    obtain ⟨h1, h2, h3⟩ := h
    have := TrOk.le h3
    have := h2.le
    rw [h1] at this
    omega
theorem TrOk.mem {l : List Rec} {s s' : Sg} {r : Rec} (h : TrOk P ops sz s l s') (hr : r ∈ l) : RecOk P ops sz r ∧ s.n ≤ r.pre.n ∧ r.post.n ≤ s'.n := by
  obtain ⟨l1, l2, rfl⟩ := List.append_of_mem hr
  obtain ⟨h1, h2, h3⟩ := h.split
  exact ⟨h2, h1.le, h3.le⟩
theorem TrOk.ds : ∀ {l : List Rec} {s s' : Sg}, TrOk P ops sz s l s' → s'.ds = s.ds
  | [], s, s', h => by have : s' = s := h; rw [this]
  | r :: l, s, s', h => by
    obtain ⟨h1, h2, h3⟩ := h
    rw [TrOk.ds h3, h2.ds, h1]
theorem TrOk.env : ∀ {l : List Rec} {s s' : Sg}, TrOk P ops sz s l s' → ∀ t x, s'.env.get t = some x → (∃ q ∈ l, q.o.dst = some t ∧ q.val = x) ∨ ((∀ q ∈ l, q.o.dst ≠ some t) ∧ s.env.get t = some x)
  | [], s, s', h, t, x, hx => by
    have : s' = s := h
    subst this
    exact .inr ⟨by simp, hx⟩
  | r :: l, s, s', h, t, x, hx => by
    obtain ⟨h1, h2, h3⟩ := h
    rcases TrOk.env h3 t x hx with ⟨q, h4, h5⟩ | ⟨h4, h5⟩
    · exact .inl ⟨q, List.mem_cons_of_mem _ h4, h5⟩
    · rw [h2.env] at h5
      split at h5
      · rename_i e
        cases h5
        exact .inl ⟨r, List.mem_cons_self .., e, rfl⟩
      · rename_i e
        refine .inr ⟨fun q hq => ?_, by rw [← h1]; exact h5⟩
        rcases List.mem_cons.1 hq with rfl | hq
        · exact e
        · exact h4 q hq
/-- light records leave what was there, and add -/
theorem TrOk.objs : ∀ {l : List Rec} {s s' : Sg}, TrOk P ops sz s l s' → (∀ q ∈ l, q.hv = false) → ∀ id o, s'.h.get id = some o → s.h.get id = some o ∨ ∃ q ∈ l, q.ob = some o ∧ q.pre.n = id
  | [], s, s', h, hl, id, o, ho => by
    have : s' = s := h
    subst this
    exact .inl ho
  | r :: l, s, s', h, hl, id, o, ho => by
    obtain ⟨h1, h2, h3⟩ := h
    rcases TrOk.objs h3 (fun q hq => hl q (List.mem_cons_of_mem _ hq)) id o ho with h4 | ⟨q, h4, h5⟩
    · rw [h2.lh (hl r (List.mem_cons_self ..))] at h4
      cases hob : r.ob with
      | none => rw [hob] at h4; exact .inl (by rw [← h1]; exact h4)
      | some ob =>
        rw [hob] at h4
        simp only at h4
        split at h4
        · rename_i e
          cases h4
          exact .inr ⟨r, List.mem_cons_self .., hob, e.symm⟩
        · exact .inl (by rw [← h1]; exact h4)
    · exact .inr ⟨q, List.mem_cons_of_mem _ h4, h5⟩
/-- the number of a new object tells its record -/
theorem TrOk.uniq {l : List Rec} {s s' : Sg} {q r : Rec} (h : TrOk P ops sz s l s') (hq : q ∈ l) (hr : r ∈ l) (h1 : q.ob ≠ none) (h2 : r.ob ≠ none) (e : q.pre.n = r.pre.n) : q = r := by
  have key : ∀ {l1 l2 : List Rec} {q r : Rec}, TrOk P ops sz s (l1 ++ q :: l2) s' → r ∈ l2 → q.ob ≠ none → q.pre.n < r.pre.n := by
    intro l1 l2 q r h hr hob
    obtain ⟨_, h3, h4⟩ := h.split
    have h5 := (h4.mem hr).2.1
    have hv : q.hv = false := by
      cases hv : q.hv with
      | false => rfl
      | true => exact absurd (h3.hob hv) hob
    have h6 := h3.ln hv
    cases ho : q.ob with
    | none => exact absurd ho hob
    | some ob => rw [ho] at h6; simp only at h6; omega
  obtain ⟨l1, l2, rfl⟩ := List.append_of_mem hq
  rcases List.mem_append.1 hr with hr' | hr'
  · obtain ⟨l3, l4, rfl⟩ := List.append_of_mem hr'
    have hh : TrOk P ops sz s (l3 ++ r :: (l4 ++ q :: l2)) s' := by simpa using h
    have := key (r := q) hh (by simp) h2
    omega
  · rcases List.mem_cons.1 hr' with rfl | hr'
    · rfl
    · have := key h hr' h1
      omega

/-! ### what is asked of a run's records -/
structure ChkOk (ops : Array Oper) (tr : List Rec) (An : Nat → Nat → Prop) : Prop where
  idx : (tr.map (·.i)).Nodup
  dst : ∀ l1 q l2 r l3 t, tr = l1 ++ q :: (l2 ++ r :: l3) → q.o.dst = some t → r.o.dst ≠ some t
  before : ∀ l1 r l2, tr = l1 ++ r :: l2 → r.hv = true → ∀ q ∈ l1, An q.i r.i
  read : ∀ l1 r l2 id, tr = l1 ++ r :: l2 → r.hv = false → rdE (resO (looksL ops r.o) r.pre.env) r.o = some id → ∀ q ∈ l1, q.hv = true → An q.i r.i ∨ q.pre.h.get id = r.pre.h.get id
  slot1 : ∀ l1 r l2 t, tr = l1 ++ r :: l2 → t ∈ looksL ops r.o → ∀ q ∈ l1, q.o.dst = some t → An q.i r.i
  slot2 : ∀ l1 r l2 t, tr = l1 ++ r :: l2 → t ∈ looksL ops r.o → ∀ q ∈ l2, q.o.dst = some t → An r.i q.i

/-- where a run in whatever order stands -/
structure Inv (P : Program) (ops : Array Oper) (sz : Nat) (tr : List Rec) (s0 sF : Sg) (m0 : LM) (w0 : World) (L : Nat → Bool) (a : Act) (w : World) (A B : List Rec) (sb : Sg) (mm : LM) : Prop where
  eq : tr = A ++ B
  okA : TrOk P ops sz s0 A sb
  okB : TrOk P ops sz sb B sF
  last : A = [] ∨ ∃ A' r, A = A' ++ [r] ∧ r.hv = true
  doneA : ∀ r ∈ A, L r.i = true
  waitB : ∀ r ∈ B, r.hv = true → L r.i = false
  upd : Upd m0 w0 mm w
  hr : HR (rs mm sb.n) sb.h.get w
  bb : ∀ i l, mm i = some l → l.b < w.heap.size
  ext : ∀ r ∈ B, L r.i = true → ∀ ob, r.ob = some ob → ∃ l, mm r.pre.n = some l ∧ OR (rs mm (r.pre.n + 1)) l w ob ∧ ∀ id l', id ≠ r.pre.n → mm id = some l' → l'.b ≠ l.b
  dom : ∀ id l, mm id = some l → id < sb.n ∨ ∃ r ∈ B, L r.i = true ∧ r.ob ≠ none ∧ r.pre.n = id
  sl1 : ∀ r ∈ tr, L r.i = true → ∀ t, r.o.dst = some t → ∃ v, a.tmps[t]? = some v ∧ VR (rs mm r.post.n) r.val v
  sl0 : ∀ t x, (∀ r ∈ tr, L r.i = true → r.o.dst ≠ some t) → s0.env.get t = some x → ∃ v, a.tmps[t]? = some v ∧ VR m0 x v
  size : a.tmps.size = sz
  ds : DRs P m0 s0.ds a.defers
  dom0 : Dom m0 s0.n

section
variable {tr A B : List Rec} {s0 sF sb : Sg} {m0 mm : LM} {w0 w : World} {L : Nat → Bool} {a : Act} {An : Nat → Nat → Prop}
theorem Inv.le0 (h : Inv P ops sz tr s0 sF m0 w0 L a w A B sb mm) {n : Nat} (hn : s0.n ≤ n) : Le m0 (rs mm n) := by
  intro i l hi
  exact rs_get (h.upd.le i l hi) (Nat.lt_of_lt_of_le (h.dom0 i l hi) hn)
theorem Inv.ok (h : Inv P ops sz tr s0 sF m0 w0 L a w A B sb mm) : TrOk P ops sz s0 tr sF := by rw [h.eq]; exact h.okA.join h.okB

/-- all that is there behind light records that have run -/
theorem Inv.seg (h : Inv P ops sz tr s0 sF m0 w0 L a w A B sb mm) {C D : List Rec} {s1 : Sg} (hB : B = C ++ D) (hC : TrOk P ops sz sb C s1) (hl : ∀ q ∈ C, q.hv = false) (hd : ∀ q ∈ C, L q.i = true) : HR (rs mm s1.n) s1.h.get w := by
  have hle : sb.n ≤ s1.n := hC.le
  have hmem : ∀ {q}, q ∈ C → q ∈ B := fun hq => by rw [hB]; exact List.mem_append_left _ hq
  have hlt : ∀ {q o}, q ∈ C → q.ob = some o → q.pre.n + 1 ≤ s1.n := by
    intro q o hq ho
    have h1 := hC.mem hq
    have h2 := h1.1.ln (hl q hq)
    rw [ho] at h2
    simp only at h2
    have := h1.2.2
    omega
  refine ⟨fun i o hi => ?_, fun i j o o' l l' hne hi hj h1 h2 => ?_, fun i l hi => h.bb i l (rs_sub _ _ i l hi)⟩
  · rcases hC.objs hl i o hi with h1 | ⟨q, h1, h2, h3⟩
    · obtain ⟨l, h4, h5⟩ := h.hr.at_ i o h1
      exact ⟨l, rs_le hle i l h4, h5.mono (rs_le hle)⟩
    · obtain ⟨l, h4, h5, h6⟩ := h.ext q (hmem h1) (hd q h1) o h2
      subst h3
      exact ⟨l, rs_get h4 (hlt h1 h2), h5.mono (rs_le (hlt h1 h2))⟩
  · have e1 := (rs_some h1).1
    have e2 := (rs_some h2).1
    rcases hC.objs hl j o' hj with q1 | ⟨q, q1, q2, q3⟩
    · rcases hC.objs hl i o hi with p1 | ⟨p, p1, p2, p3⟩
      · obtain ⟨l2, h4, _⟩ := h.hr.at_ i o p1
        obtain ⟨l3, h5, _⟩ := h.hr.at_ j o' q1
        have : l2 = l := by have := (rs_some h4).1; rw [e1] at this; cases this; rfl
        subst this
        have : l3 = l' := by have := (rs_some h5).1; rw [e2] at this; cases this; rfl
        subst this
        exact h.hr.sep i j o o' l2 l3 hne p1 q1 h4 h5
      · obtain ⟨l2, h4, h5, h6⟩ := h.ext p (hmem p1) (hd p p1) o p2
        subst p3
        rw [e1] at h4; cases h4
        exact fun e => h6 j l' (Ne.symm hne) e2 e.symm
    · obtain ⟨l2, h4, h5, h6⟩ := h.ext q (hmem q1) (hd q q1) o' q2
      subst q3
      rw [e2] at h4; cases h4
      exact h6 i l hne e1

/-- what an operation that may run looks at -/
theorem Inv.looks (h : Inv P ops sz tr s0 sF m0 w0 L a w A B sb mm) {l1 l2 : List Rec} {o : Oper} {s1 : Sg} {i : Nat} (he : tr = l1 ++ l2) (h1 : TrOk P ops sz s0 l1 s1) (hanc : ∀ j, An j i → L j = true) (hni : L i = false)
    (hcl : ∀ j k, L j = true → An k j → L k = true)
    (c1 : ∀ t, t ∈ looksL ops o → ∀ q ∈ l1, q.o.dst = some t → An q.i i) (c2 : ∀ t, t ∈ looksL ops o → ∀ q ∈ l2, q.o.dst = some t → q.i = i ∨ An i q.i) : LkOk (rs mm s1.n) ops o s1.env a := by
  intro t x ht hx
  rcases h1.env t x hx with ⟨q, hq, hqd, rfl⟩ | ⟨hno, hx0⟩
  · obtain ⟨v, h2, h3⟩ := h.sl1 q (by rw [he]; exact List.mem_append_left _ hq) (hanc _ (c1 t ht q hq hqd)) t hqd
    exact ⟨v, h2, h3.mono (rs_le (h1.mem hq).2.2)⟩
  · have hno' : ∀ r ∈ tr, L r.i = true → r.o.dst ≠ some t := by
      intro r hr hL hd
      rw [he] at hr
      rcases List.mem_append.1 hr with hr | hr
      · exact hno r hr hd
      · rcases c2 t ht r hr hd with e | e
        · rw [e, hni] at hL; cases hL
        · have := hcl _ _ hL e
          rw [hni] at this; cases this
    obtain ⟨v, h2, h3⟩ := h.sl0 t x hno' hx0
    exact ⟨v, h2, h3.mono (h.le0 h1.le)⟩

/-- one more is done -/
def addL (L : Nat → Bool) (k : Nat) : Nat → Bool := fun i => L i || Nat.beq k i
theorem addL_old {L : Nat → Bool} {k i : Nat} (h : L i = true) : addL L k i = true := by simp [addL, h]
theorem addL_new {L : Nat → Bool} {k : Nat} : addL L k k = true := by simp [addL]
theorem addL_or {L : Nat → Bool} {k i : Nat} (h : addL L k i = true) : L i = true ∨ i = k := by
  simp only [addL, Bool.or_eq_true, Nat.beq_eq] at h
  exact h.imp id Eq.symm
theorem addL_ne {L : Nat → Bool} {k i : Nat} (h : i ≠ k) : addL L k i = L i := by
  have : Nat.beq k i = false := by
    cases hb : Nat.beq k i with
    | false => rfl
    | true => exact absurd (Nat.eq_of_beq_eq_true hb).symm h
  simp [addL, this]
theorem nodup_ne {l1 l2 : List Rec} {r q : Rec} (h : ((l1 ++ r :: l2).map (·.i)).Nodup) (hq : q ∈ l1 ∨ q ∈ l2) : q.i ≠ r.i := by
  simp only [List.map_append, List.map_cons] at h
  obtain ⟨h1, h2, h3⟩ := List.nodup_append.1 h
  rcases hq with hq | hq
  · exact h3 q.i (List.mem_map.2 ⟨q, hq, rfl⟩) r.i (List.mem_cons_self ..)
  · intro e
    exact (List.nodup_cons.1 h2).1 (e ▸ List.mem_map.2 ⟨q, hq, rfl⟩)
theorem put_get {a : Act} {d : Option Tmp} {v u : Value} {t : Nat} (h : d ≠ some t) (hu : a.tmps[t]? = some u) : (a.put d v).tmps[t]? = some u := by
  cases d with
  | none => exact hu
  | some d =>
    simp only [Act.put, Array.getElem?_setIfInBounds]
    rw [if_neg (fun e => h (by rw [e]))]
    exact hu
theorem put_new {a : Act} {v : Value} {t : Nat} (h : t < a.tmps.size) : (a.put (some t) v).tmps[t]? = some v := by
  simp [Act.put, h]
theorem put_size {a : Act} {d : Option Tmp} {v : Value} : (a.put d v).tmps.size = a.tmps.size := by cases d <;> simp [Act.put]
theorem put_defers {a : Act} {d : Option Tmp} {v : Value} : (a.put d v).defers = a.defers := by cases d <;> rfl

/-- the slots behind one more record -/
theorem Inv.slots (h : Inv P ops sz tr s0 sF m0 w0 L a w A B sb mm) (chk : ChkOk ops tr An) {l1 l2 : List Rec} {r : Rec} (he : tr = l1 ++ r :: l2) (hr : RecOk P ops sz r) {mm' : LM} {v : Value} (hle : Le mm mm') (hv : VR (rs mm' r.post.n) r.val v) :
    (∀ q ∈ tr, addL L r.i q.i = true → ∀ t, q.o.dst = some t → ∃ u, (a.put r.o.dst v).tmps[t]? = some u ∧ VR (rs mm' q.post.n) q.val u) ∧
    (∀ t x, (∀ q ∈ tr, addL L r.i q.i = true → q.o.dst ≠ some t) → s0.env.get t = some x → ∃ u, (a.put r.o.dst v).tmps[t]? = some u ∧ VR m0 x u) := by
  have hrm : r ∈ tr := by rw [he]; simp
  refine ⟨fun q hq hL t ht => ?_, fun t x hno hx => ?_⟩
  · by_cases e : q = r
    · subst e
      refine ⟨v, ?_, hv⟩
      rw [ht]
      exact put_new (by rw [h.size]; exact hr.dlt t ht)
    · have hqi : q.i ≠ r.i := by
        have hn := chk.idx
        rw [he] at hn hq
        refine nodup_ne hn ?_
        rcases List.mem_append.1 hq with hq | hq
        · exact .inl hq
        · exact .inr ((List.mem_cons.1 hq).resolve_left e)
      rw [addL_ne hqi] at hL
      obtain ⟨u, h1, h2⟩ := h.sl1 q hq hL t ht
      refine ⟨u, put_get ?_ h1, h2.mono (rs_mono hle)⟩
      rw [he] at hq
      rcases List.mem_append.1 hq with hq | hq
      · obtain ⟨l3, l4, rfl⟩ := List.append_of_mem hq
        exact chk.dst l3 q l4 r l2 t (by simpa using he) ht
      · have hq := (List.mem_cons.1 hq).resolve_left e
        obtain ⟨l3, l4, rfl⟩ := List.append_of_mem hq
        intro hd
        exact chk.dst l1 r l3 q l4 t he hd ht
  · obtain ⟨u, h1, h2⟩ := h.sl0 t x (fun q hq hL => hno q hq (addL_old hL)) hx
    exact ⟨u, put_get (hno r hrm addL_new) h1, h2⟩

/-- the records that are light, up to the first that is not -/
theorem lights : ∀ (l : List Rec), (∀ q ∈ l, q.hv = false) ∨ ∃ l1 q l2, l = l1 ++ q :: l2 ∧ (∀ p ∈ l1, p.hv = false) ∧ q.hv = true
  | [] => .inl (by simp)
  | r :: l => by
    cases hr : r.hv with
    | true => exact .inr ⟨[], r, l, rfl, by simp, hr⟩
    | false =>
      rcases lights l with h | ⟨l1, q, l2, h1, h2, h3⟩
      · exact .inl fun q hq => by rcases List.mem_cons.1 hq with rfl | hq; exact hr; exact h q hq
      · exact .inr ⟨r :: l1, q, l2, by rw [h1]; rfl, fun p hp => by rcases List.mem_cons.1 hp with rfl | hp; exact hr; exact h2 p hp, h3⟩

theorem Inv.light_step (h : Inv P ops sz tr s0 sF m0 w0 L a w A B sb mm) (chk : ChkOk ops tr An) {B1 B2 : List Rec} {r : Rec} (hB : B = B1 ++ r :: B2) (hv : r.hv = false) (hni : L r.i = false) (hanc : ∀ j, An j r.i → L j = true)
    (hcl : ∀ j k, L j = true → An k j → L k = true) {Q : Exit → Act → World → Prop} {K : Act → World → Prop} (hK : ∀ a' w' mm', Inv P ops sz tr s0 sF m0 w0 (addL L r.i) a' w' A B sb mm' → K a' w') :
    if Region.wanted r.o (yielded ops a.tmps) then r.o.wp P a w K Q else K (a.put r.o.dst undef) w := by
  have he : tr = (A ++ B1) ++ r :: B2 := by rw [h.eq, hB]; simp
  have hok := h.ok
  rw [he] at hok
  obtain ⟨ok1, okr, ok2⟩ := hok.split
  have hrB : r ∈ B := by rw [hB]; simp
  have hsb : sb.n ≤ r.pre.n := (h.okB.mem hrB).2.1
  have hlk : LkOk (rs mm r.pre.n) ops r.o r.pre.env a := by
    refine h.looks (i := r.i) he ok1 hanc hni hcl (fun t ht q hq hd => chk.slot1 _ r _ t he ht q hq hd) (fun t ht q hq hd => ?_)
    rcases List.mem_cons.1 hq with rfl | hq
    · exact .inl rfl
    · exact .inr (chk.slot2 _ r _ t he ht q hq hd)
  have hread : ∀ i o, rdE (resO (looksL ops r.o) r.pre.env) r.o = some i → r.pre.h.get i = some o → ∃ l, rs mm r.pre.n i = some l ∧ OR (rs mm r.pre.n) l w o := by
    intro id o hrd ho
    obtain ⟨l, hl⟩ := rdE_some hlk.rk hrd
    obtain ⟨hml, hidlt⟩ := rs_some hl
    have hokB : TrOk P ops sz sb (B1 ++ r :: B2) sF := by rw [← hB]; exact h.okB
    -- the object lies in the base, or a light record that has run made it
    have main : ∀ {C D : List Rec} {s1 : Sg}, B1 = C ++ D → TrOk P ops sz sb C s1 → (∀ q ∈ C, q.hv = false) → s1.h.get id = some o → ∃ l, rs mm r.pre.n id = some l ∧ OR (rs mm r.pre.n) l w o := by
      intro C D s1 hCD hC hCl ho1
      rcases hC.objs hCl id o ho1 with h1 | ⟨q, h1, h2, h3⟩
      · obtain ⟨l2, h4, h5⟩ := h.hr.at_ id o h1
        exact ⟨l2, rs_le hsb id l2 h4, h5.mono (rs_le hsb)⟩
      · have hqB : q ∈ B := by rw [hB, hCD]; simp [h1]
        have hLq : L q.i = true := by
          rcases h.dom id l hml with h4 | ⟨q', h4, h5, h6, h7⟩
          · have := (hC.mem h1).2.1; omega
          · have : q' = q := h.okB.uniq h4 hqB h6 (by rw [h2]; simp) (h7.trans h3.symm)
            rw [← this]; exact h5
        obtain ⟨l2, h4, h5, _⟩ := h.ext q hqB hLq o h2
        rw [h3] at h4 h5
        exact ⟨l2, rs_get h4 hidlt, h5.mono (rs_le hidlt)⟩
    rcases lights B1 with hall | ⟨C, q, D, hCD, hCl, hqv⟩
    · obtain ⟨s1, hC, hr2⟩ := hokB.append
      have : r.pre = s1 := hr2.1
      subst this
      exact main (D := []) (by simp) hC hall ho
    · have hqB : q ∈ B := by rw [hB, hCD]; simp
      have hna : ¬ An q.i r.i := fun e => by
        have := hanc _ e
        rw [h.waitB q hqB hqv] at this; cases this
      have hokC : TrOk P ops sz sb (C ++ q :: (D ++ r :: B2)) sF := by rw [hCD] at hokB; simpa using hokB
      obtain ⟨hC, _, _⟩ := hokC.split
      have hrd2 := (chk.read (A ++ B1) r B2 id he hv hrd q (by rw [hCD]; simp) hqv).resolve_left hna
      exact main (D := q :: D) hCD hC hCl (by rw [hrd2]; exact ho)
  have hfresh : ∀ ob, r.ob = some ob → ∀ l, mm r.pre.n ≠ some l := by
    intro ob hob l hl
    rcases h.dom _ l hl with h1 | ⟨q, h1, h2, h3, h4⟩
    · omega
    · have : q = r := h.okB.uniq h1 hrB h3 (by rw [hob]; simp) h4
      rw [this, hni] at h2; cases h2
  refine okr.light hv Q (rs mm r.pre.n) w a K hlk hread (fun hob v hvr => ?_) (fun ob hob v w' c hgr hnew => ?_)
  · have hn := okr.ln hv
    rw [hob] at hn
    simp only at hn
    obtain ⟨s1, s2⟩ := h.slots chk he okr (Le.refl mm) (by rw [hn]; exact hvr)
    refine hK _ _ mm ⟨h.eq, h.okA, h.okB, h.last, fun q hq => addL_old (h.doneA q hq), fun q hq hqv => ?_, h.upd, h.hr, h.bb, fun q hq hL ob2 hob2 => ?_, fun id l hl => ?_, s1, s2, by rw [put_size]; exact h.size, by rw [put_defers]; exact h.ds, h.dom0⟩
    · rw [addL_ne]
      · exact h.waitB q hq hqv
      · intro e
        have hn := chk.idx
        rw [he] at hn
        rw [hB] at hq
        by_cases e2 : q = r
        · rw [e2, hv] at hqv; cases hqv
        · refine nodup_ne hn ?_ e
          rcases List.mem_append.1 hq with hq | hq
          · exact .inl (List.mem_append_right _ hq)
          · exact .inr ((List.mem_cons.1 hq).resolve_left e2)
    · rcases addL_or hL with hL | e
      · exact h.ext q hq hL ob2 hob2
      · have : q = r := by
          by_cases e2 : q = r
          · exact e2
          · have hn := chk.idx
            rw [he] at hn
            rw [hB] at hq
            refine absurd e (nodup_ne hn ?_)
            rcases List.mem_append.1 hq with hq | hq
            · exact .inl (List.mem_append_right _ hq)
            · exact .inr ((List.mem_cons.1 hq).resolve_left e2)
        rw [this, hob] at hob2; cases hob2
    · rcases h.dom id l hl with h1 | ⟨q, h1, h2, h3⟩
      · exact .inl h1
      · exact .inr ⟨q, h1, addL_old h2, h3⟩
  · have hn := okr.ln hv
    rw [hob] at hn
    simp only at hn
    have hle : Le mm (put1 mm r.pre.n ⟨w.heap.size, 0, c⟩) := by
      intro i l hi
      unfold put1
      split
      · rename_i e; subst e; exact absurd hi (hfresh ob hob l)
      · exact hi
    have hm' : Le (rs mm r.pre.n) (rs (put1 mm r.pre.n ⟨w.heap.size, 0, c⟩) (r.pre.n + 1)) := (rs_mono hle).trans (rs_le (Nat.le_succ _))
    have hget : rs (put1 mm r.pre.n ⟨w.heap.size, 0, c⟩) (r.pre.n + 1) r.pre.n = some ⟨w.heap.size, 0, c⟩ := by simp [rs, put1]
    obtain ⟨hvr, hor⟩ := hnew _ hm' hget
    obtain ⟨s1, s2⟩ := h.slots chk he okr hle (by rw [hn]; exact hvr)
    have hbase : rs (put1 mm r.pre.n ⟨w.heap.size, 0, c⟩) sb.n = rs mm sb.n := by
      funext i
      unfold rs put1
      split
      · rw [if_neg (by omega)]
      · rfl
    have hupd : Upd mm w (put1 mm r.pre.n ⟨w.heap.size, 0, c⟩) w' := ⟨hle, hgr.os, hgr.tape, hgr.output, by rw [hgr.size]; omega, fun b hb _ => hgr.keep b hb, fun i l hl => by
      unfold put1 at hl
      split at hl
      · cases hl; exact .inr (.inr ⟨Nat.le_refl _, by rw [hgr.size]; exact Nat.lt_succ_self _⟩)
      · exact .inl hl⟩
    refine hK _ _ _ ⟨h.eq, h.okA, h.okB, h.last, fun q hq => addL_old (h.doneA q hq), fun q hq hqv => ?_, h.upd.trans hupd, ?_, fun i l hl => ?_, fun q hq hL ob2 hob2 => ?_, fun id l hl => ?_, s1, s2, by rw [put_size]; exact h.size, by rw [put_defers]; exact h.ds, h.dom0⟩
    · rw [addL_ne]
      · exact h.waitB q hq hqv
      · intro e
        have hn := chk.idx
        rw [he] at hn
        rw [hB] at hq
        by_cases e2 : q = r
        · rw [e2, hv] at hqv; cases hqv
        · refine nodup_ne hn ?_ e
          rcases List.mem_append.1 hq with hq | hq
          · exact .inl (List.mem_append_right _ hq)
          · exact .inr ((List.mem_cons.1 hq).resolve_left e2)
    · rw [hbase]
      refine ⟨fun i o hi => ?_, h.hr.sep, fun i l hi => Nat.lt_of_lt_of_le (h.hr.bb i l hi) hupd.size⟩
      obtain ⟨l, h1, h2⟩ := h.hr.at_ i o hi
      exact ⟨l, h1, h2.keep (hgr.keep _ h2.lt)⟩
    · unfold put1 at hl
      split at hl
      · cases hl; simp only; rw [hgr.size]; exact Nat.lt_succ_self _
      · exact Nat.lt_of_lt_of_le (h.bb i l hl) hupd.size
    · by_cases e2 : q = r
      · subst e2
        rw [hob] at hob2; cases hob2
        refine ⟨⟨w.heap.size, 0, c⟩, by simp [put1], hor, fun id l' hne hl' => ?_⟩
        unfold put1 at hl'
        rw [if_neg hne] at hl'
        have := h.bb id l' hl'
        simp only; omega
      · have hqi : q.i ≠ r.i := by
          have hn := chk.idx
          rw [he] at hn
          rw [hB] at hq
          refine nodup_ne hn ?_
          rcases List.mem_append.1 hq with hq | hq
          · exact .inl (List.mem_append_right _ hq)
          · exact .inr ((List.mem_cons.1 hq).resolve_left e2)
        rw [addL_ne hqi] at hL
        obtain ⟨l, h1, h2, h3⟩ := h.ext q hq hL ob2 hob2
        have hlt : l.b < w.heap.size := h.bb _ l h1
        refine ⟨l, hle _ _ h1, (h2.mono (rs_mono hle)).keep (hgr.keep _ hlt), fun id l' hne hl' => ?_⟩
        unfold put1 at hl'
        split at hl'
        · cases hl'; simp only; omega
        · exact h3 id l' hne hl'
    · unfold put1 at hl
      split at hl
      · rename_i e
        exact .inr ⟨r, hrB, addL_new, by rw [hob]; simp, e.symm⟩
      · rcases h.dom id l hl with h1 | ⟨q, h1, h2, h3⟩
        · exact .inl h1
        · exact .inr ⟨q, h1, addL_old h2, h3⟩
end
end
end Go.Ev
