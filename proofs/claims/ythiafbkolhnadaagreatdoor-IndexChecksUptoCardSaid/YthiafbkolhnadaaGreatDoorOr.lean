/-
  A region that draws its order: the operations that only read are taken first, all at once; the others in each order that is left.
-/
import Derived.Orders
import Derived.Test.YthiafbkolhnadaaGreatDoorBb
set_option linter.unusedVariables false
set_option linter.unusedSimpArgs false
namespace Go.Dk
open Go Go.RowKit

def lk (l : Array Bool) (i : Nat) : Bool := l.getD i false
def depsOf (ops : Array Oper) (j : Nat) : List Nat := match ops[j]? with
  | none => []
  | some o => (o.after.toList.filter (Region.binds .any)).map (·.on)
/-- i is among what j must wait for, in at most k steps -/
def isAnc (ops : Array Oper) : Nat → Nat → Nat → Bool
  | 0, _, _ => false
  | k + 1, i, j => (depsOf ops j).any fun e => e == i || isAnc ops k i e
/-- what is asked of a region's text -/
def chkOrd (ops : Array Oper) (pu : List (Nat × Nat)) : Bool :=
  Region.noSelect ops &&
  ((List.range ops.size).all fun j => (depsOf ops j).all fun e => Nat.blt e j) &&
  (pu.all fun p => match ops[p.1]? with
    | none => false
    | some o => (match o.dst with | some d => Nat.beq d p.2 | none => false) &&
      (List.range ops.size).all fun j => match ops[j]? with
        | none => true
        | some oj => (match oj.dst with
            | none => true
            | some d => Nat.beq j p.1 || (!Nat.beq d p.2 && (pu.any (fun q => Nat.beq q.1 j) || !(o.looksAt ops).contains d || isAnc ops 12 p.1 j))) &&
          (!(oj.looksAt ops).contains p.2 || isAnc ops 12 p.1 j))

theorem anc_listed {ops : Array Oper} {listed : Array Bool} (hcl : ∀ j, lk listed j = true → ∀ e ∈ depsOf ops j, lk listed e = true) : ∀ (k i j : Nat), (∀ e ∈ depsOf ops j, lk listed e = true) → isAnc ops k i j = true → lk listed i = true
  | 0, _, _, _, h => by simp [isAnc] at h
  | k + 1, i, j, hj, h => by
    simp only [isAnc, List.any_eq_true, Bool.or_eq_true, beq_iff_eq] at h
    obtain ⟨e, he, rfl | h⟩ := h
    · exact hj e he
    · exact anc_listed hcl k i e (hcl e (hj e he)) h

/-- only the plain end -/
def Fin0 (K : Act → World → Prop) : Exit → Act → World → Prop
  | .normal, a, w => K a w
  | _, _, _ => False
theorem Fin0.shut {K : Act → World → Prop} : ¬ LetsOut (Fin0 K) := fun ⟨_, _, h⟩ => h

/-- when i is done, all of pu is -/
def lateB (ops : Array Oper) (pu : List (Nat × Nat)) (i : Nat) : Bool := pu.all fun p => isAnc ops 12 p.1 i
/-- the operations that are left, in each order; S after each, while one of pu may be left -/
def wpX (P : Program) (ops : Array Oper) (pu : List (Nat × Nat)) (Q : Exit → Act → World → Prop) (S : World → Prop) : Nat → Array Bool → Act → World → Prop
  | 0, _, _, _ => False
  | k + 1, l, a, w => (Region.ready .any ops l = [] → Q .normal a w) ∧
    ∀ i ∈ Region.ready .any ops l, ∃ o, ops[i]? = some o ∧ wpList P ops (Fin0 fun a' w' => (S w' ∨ lateB ops pu i = true) ∧ wpX P ops pu Q S k (l.setIfInBounds i true) a' w') [o] a w

/-- two acts that agree but at some slots -/
structure Rl (bad : Nat → Prop) (a b : Act) : Prop where
  df : a.defers = b.defers
  sz : a.tmps.size = b.tmps.size
  tm : ∀ x, ¬ bad x → a.tmps[x]? = b.tmps[x]?
theorem Rl.eval {bad : Nat → Prop} {a b : Act} (h : Rl bad a b) {x : Operand} (hx : ∀ t, x = .tmp t → ¬ bad t) : a.eval x = b.eval x := by
  cases x with
  | tmp t =>
    have := h.tm t (hx t rfl)
    simp only [Act.eval, Array.getD_eq_getD_getElem?, this]
  | _ => rfl
theorem Rl.put {bad bad' : Nat → Prop} {a b : Act} (h : Rl bad a b) (d : Option Nat) (v : Value) (hb : ∀ x, ¬ bad' x → d = some x ∨ ¬ bad x) : Rl bad' (a.put d v) (b.put d v) := by
  cases d with
  | none => exact ⟨h.df, h.sz, fun x hx => h.tm x ((hb x hx).resolve_left (by simp))⟩
  | some d =>
    refine ⟨h.df, by simp [Act.put, h.sz], fun x hx => ?_⟩
    simp only [Act.put, Array.getElem?_setIfInBounds, h.sz]
    split
    · rfl
    · rename_i hne
      exact h.tm x ((hb x hx).resolve_left fun e => hne (by simpa using e))

section
variable {P : Program} {ops : Array Oper} {Q : Exit → Act → World → Prop} {S : World → Prop} {pu : List (Nat × Nat)}
theorem looks_ev {o : Oper} {bad : Nat → Prop} {a b : Act} (h : Rl bad a b) (hl : ∀ t ∈ o.looksAt ops, ¬ bad t) : (∀ x ∈ o.op.operands, a.eval x = b.eval x) ∧ Region.wanted o (yielded ops a.tmps) = Region.wanted o (yielded ops b.tmps) := by
  refine ⟨fun x hx => h.eval fun t e => hl t ?_, ?_⟩
  · subst e
    exact List.mem_append_left _ (List.mem_filterMap.2 ⟨.tmp t, by simpa using hx, rfl⟩)
  · unfold Region.wanted
    cases hg : o.guard with
    | none => rfl
    | some gw =>
      obtain ⟨g, want⟩ := gw
      have hy : yielded ops a.tmps g = yielded ops b.tmps g := by
        unfold yielded
        cases ht : (ops[g]?).bind (·.dst) with
        | none => rfl
        | some t =>
          have := h.tm t (hl t (by simp [Oper.looksAt, hg, ht]))
          simp [this]
      simp only [hy]

/-- an operation runs alike in both acts -/
theorem step_rl {o : Oper} {bad bad' : Nat → Prop} {a b : Act} {w : World} {K K' : Act → World → Prop} (hns : ∀ cs b, o.op ≠ .select cs b) (h : Rl bad a b) (hl : ∀ t ∈ o.looksAt ops, ¬ bad t) (hb : ∀ x, ¬ bad' x → o.dst = some x ∨ ¬ bad x)
    (hK : ∀ a' b' w', Rl bad' a' b' → (∃ v df, b' = ({ b with defers := df } : Act).put o.dst v) → K b' w' → K' a' w') (H : wpList P ops (Fin0 K) [o] b w) :
    if Region.wanted o (yielded ops a.tmps) then o.wp P a w K' Q else K' (a.put o.dst undef) w := by
  obtain ⟨h1, h2⟩ := looks_ev h hl
  unfold wpList at H
  rw [← h2] at H
  split
  · rename_i hw
    rw [if_pos hw] at H
    rcases H with H | ⟨_, H⟩
    · unfold Oper.wp at *
      rw [execOp_congr o hns h1]
      generalize (execOp b.eval o).run P w = r at *
      cases r with
      | ok n w' =>
        cases n <;> simp only [Oper.upon] at H ⊢
        case value u => exact hK _ _ _ (h.put _ _ hb) ⟨u, b.defers, rfl⟩ H
        case skip => exact hK _ _ _ (h.put _ _ hb) ⟨undef, b.defers, rfl⟩ H
        case defer d =>
          refine hK _ _ _ (Rl.put (a := { a with defers := d :: a.defers }) (b := { b with defers := d :: b.defers }) ⟨by simp [h.df], h.sz, h.tm⟩ _ _ hb) ⟨undef, d :: b.defers, rfl⟩ H
        case enter f args =>
          refine Calls.mono H fun e w'' he => ?_
          cases e with
          | returned u => exact hK _ _ _ (h.put _ _ hb) ⟨u, b.defers, rfl⟩ he
          | panicked c => exact he.elim
          | outgrown => exact (Fin0.shut he).elim
        case row row args => exact Rows.mono H fun u w'' he => hK _ _ _ (h.put _ _ hb) ⟨u, b.defers, rfl⟩ he
      | halt x w' =>
        cases x <;> simp only [Oper.upon] at H ⊢
        case panic u => exact H.elim
    · exact (Fin0.shut H).elim
  · rename_i hw
    rw [if_neg hw] at H
    exact hK _ _ _ (h.put _ _ hb) ⟨undef, b.defers, rfl⟩ H

theorem chk_sel (h : chkOrd ops pu = true) : Region.noSelect ops = true := by
  unfold chkOrd at h; simp only [Bool.and_eq_true] at h; exact h.1.1
theorem chk_dep (h : chkOrd ops pu = true) (j e : Nat) (he : e ∈ depsOf ops j) : e < j := by
  unfold chkOrd at h; simp only [Bool.and_eq_true, List.all_eq_true, List.mem_range] at h
  have hj : j < ops.size := by
    rcases Nat.lt_or_ge j ops.size with h' | h'
    · exact h'
    · simp [depsOf, Array.getElem?_eq_none h'] at he
  have := h.1.2 j hj e he; simpa using this
theorem chk_pu (h : chkOrd ops pu = true) (p : Nat × Nat) (hp : p ∈ pu) : ∃ o, ops[p.1]? = some o ∧ True ∧ o.dst = some p.2 ∧
    ∀ j oj, ops[j]? = some oj → (∀ d, oj.dst = some d → j = p.1 ∨ (d ≠ p.2 ∧ (pu.any (fun q => Nat.beq q.1 j) = true ∨ d ∉ o.looksAt ops ∨ isAnc ops 12 p.1 j = true))) ∧ (p.2 ∈ oj.looksAt ops → isAnc ops 12 p.1 j = true) := by
  unfold chkOrd at h; simp only [Bool.and_eq_true, List.all_eq_true, List.mem_range] at h
  have h1 := h.2 p hp
  cases ho : ops[p.1]? with
  | none => rw [ho] at h1; cases h1
  | some o =>
    rw [ho] at h1
    simp only [Bool.and_eq_true, List.all_eq_true, List.mem_range] at h1
    obtain ⟨h3, h4⟩ := h1
    refine ⟨o, rfl, trivial, ?_, fun j oj hj => ?_⟩
    · cases hd : o.dst with
      | none => rw [hd] at h3; cases h3
      | some d => rw [hd] at h3; simpa using h3
    · have h5 := h4 j (Array.getElem?_eq_some_iff.1 hj).1
      rw [hj] at h5
      simp only [Bool.and_eq_true] at h5
      refine ⟨fun d hd => ?_, fun hm => ?_⟩
      · have h6 := h5.1
        rw [hd] at h6
        simp only [Bool.or_eq_true, Bool.and_eq_true, Nat.beq_eq, Bool.not_eq_true', List.contains_eq_mem, decide_eq_false_iff_not] at h6
        rcases h6 with h6 | ⟨h6, h7⟩
        · exact .inl h6
        · refine .inr ⟨fun e => by subst e; simp at h6, ?_⟩
          rcases h7 with (h7 | h7) | h7
          · exact .inl h7
          · exact .inr (.inl h7)
          · exact .inr (.inr h7)
      · have h6 := h5.2
        simp only [Bool.or_eq_true, Bool.not_eq_true', List.contains_eq_mem, decide_eq_false_iff_not] at h6
        exact h6.resolve_left fun h => h hm

theorem lk_set {l : Array Bool} {i j : Nat} (hi : i < l.size) : lk (l.setIfInBounds i true) j = (lk l j || Nat.beq i j) := by
  unfold lk
  by_cases hij : i = j
  · subst hij; simp [hi]
  · have : Nat.beq i j = false := by
      cases hb : Nat.beq i j
      · rfl
      · exact absurd (Nat.eq_of_beq_eq_true hb) hij
    simp [this, Array.getElem?_setIfInBounds_ne hij]
theorem getD_t {l : Array Bool} {i : Nat} (hi : i < l.size) : l.getD i true = lk l i := by
  unfold lk; simp [hi]

theorem ready_iff {listed : Array Bool} {j : Nat} (hs : listed.size = ops.size) : j ∈ Region.ready .any ops listed ↔ j < ops.size ∧ lk listed j = false ∧ ∀ e ∈ depsOf ops j, lk listed e = true := by
  rw [mem_ready]
  constructor
  · rintro ⟨h0, o, ho, h1⟩
    have hj := (Array.getElem?_eq_some_iff.1 ho).1
    refine ⟨hj, by rw [← getD_t (by omega)]; exact h0, fun e he => ?_⟩
    simp only [depsOf, ho, List.mem_map, List.mem_filter, Array.mem_toList_iff] at he
    obtain ⟨ed, ⟨he1, he2⟩, rfl⟩ := he
    exact h1 ed he1 he2
  · rintro ⟨hj, h0, h1⟩
    refine ⟨by rw [getD_t (by omega)]; exact h0, ops[j], Array.getElem?_eq_getElem hj, fun e he hb => ?_⟩
    refine h1 e.on ?_
    simp only [depsOf, Array.getElem?_eq_getElem hj, List.mem_map, List.mem_filter, Array.mem_toList_iff]
    exact ⟨e, ⟨he, hb⟩, rfl⟩
theorem ready_end (hch : chkOrd ops pu = true) {listed : Array Bool} (hs : listed.size = ops.size) (h : Region.ready .any ops listed = []) : ∀ i, i < ops.size → lk listed i = true := by
  intro i
  induction i using Nat.strongRecOn with
  | _ i ih =>
    intro hi
    cases hl : lk listed i with
    | true => rfl
    | false =>
      have : i ∈ Region.ready .any ops listed := (ready_iff hs).2 ⟨hi, hl, fun e he => ih e (chk_dep hch i e he) (by have := chk_dep hch i e he; omega)⟩
      rw [h] at this
      cases this
theorem count_set {l : Array Bool} {i : Nat} (hi : i < l.size) (h : lk l i = false) : (l.setIfInBounds i true).toList.count false + 1 = l.toList.count false := by
  have h0 : l.toList[i]'(by simpa using hi) = false := by
    simp only [lk] at h
    simpa [hi] using h
  have hpos : 0 < l.toList.count false := List.count_pos_iff.2 (by rw [← h0]; exact List.getElem_mem _)
  rw [Array.toList_setIfInBounds, List.count, List.countP_set (by simpa using hi), h0]
  unfold List.count at hpos
  have e1 : ((false : Bool) == false) = true := rfl
  have e2 : ((true : Bool) == false) = false := rfl
  rw [e1, e2, if_pos rfl, if_neg (by simp)]
  omega
theorem orders_done (hch : chkOrd ops pu = true) {k : Nat} {listed l : Array Bool} {a b : Act} {w : World} (hs : listed.size = ops.size) (hl : l.size = ops.size)
    (hm : ∀ i, i < ops.size → lk l i = (lk listed i || pu.any (fun q => Nat.beq q.1 i))) (hr : Rl (fun x => ∃ p ∈ pu, p.2 = x ∧ lk listed p.1 = false) a b) (hx : wpX P ops pu Q S k l b w) (h0 : Region.ready .any ops listed = []) : Q .normal a w := by
  have hall := ready_end hch hs h0
  have hab : a = b := by
    obtain ⟨ta, da⟩ := a
    obtain ⟨tb, db⟩ := b
    have h1 : da = db := hr.df
    have h2 : ta = tb := by
      apply Array.ext_getElem?
      intro x
      refine hr.tm x ?_
      rintro ⟨p, hp, _, hf⟩
      obtain ⟨o, ho, _⟩ := chk_pu hch p hp
      rw [hall p.1 (Array.getElem?_eq_some_iff.1 ho).1] at hf
      cases hf
    rw [h1, h2]
  subst hab
  cases k with
  | zero => exact hx.elim
  | succ k =>
    refine hx.1 ?_
    cases hrr : Region.ready .any ops l with
    | nil => rfl
    | cons x xs =>
      have hx : x ∈ Region.ready .any ops l := by rw [hrr]; exact List.mem_cons_self ..
      obtain ⟨h1, h2, _⟩ := (ready_iff hl).1 hx
      rw [hm x h1, hall x h1] at h2
      cases h2

theorem orders_go (hch : chkOrd ops pu = true) : ∀ (fuel k : Nat) (listed l : Array Bool) (a b : Act) (w : World), listed.toList.count false ≤ fuel → listed.size = ops.size → l.size = ops.size →
    (∀ i, i < ops.size → lk l i = (lk listed i || pu.any (fun q => Nat.beq q.1 i))) → (∀ j, lk listed j = true → ∀ e ∈ depsOf ops j, lk listed e = true) →
    Rl (fun x => ∃ p ∈ pu, p.2 = x ∧ lk listed p.1 = false) a b → (S w ∨ ∀ p ∈ pu, lk listed p.1 = true) →
    (∀ p ∈ pu, lk listed p.1 = false → ∃ o v, ops[p.1]? = some o ∧ b.tmps[p.2]? = some v ∧ Region.wanted o (yielded ops b.tmps) = true ∧ ∀ w', S w' → (execOp b.eval o).run P w' = .ok (.value v) w') →
    wpX P ops pu Q S k l b w → wpAny P .any ops Q fuel listed a w := by
  intro fuel
  induction fuel with
  | zero =>
    intro k listed l a b w hf hs hl hm hcl hr hS hp hx
    have h0 : Region.ready .any ops listed = [] := by
      cases hrr : Region.ready .any ops listed with
      | nil => rfl
      | cons x xs =>
        have hx : x ∈ Region.ready .any ops listed := by rw [hrr]; exact List.mem_cons_self ..
        obtain ⟨h1, h2, _⟩ := (ready_iff hs).1 hx
        have := count_set (l := listed) (by omega) h2
        omega
    exact ⟨h0, orders_done hch hs hl hm hr hx h0⟩
  | succ fuel ih =>
    intro k listed l a b w hf hs hl hm hcl hr hS hp hx
    refine ⟨orders_done hch hs hl hm hr hx, fun i hi => ?_⟩
    obtain ⟨hilt, hiun, hidep⟩ := (ready_iff hs).1 hi
    have hcnt := count_set (l := listed) (by omega) hiun
    obtain ⟨o, ho⟩ : ∃ o, ops[i]? = some o := ⟨_, Array.getElem?_eq_getElem hilt⟩
    have hns : ∀ cs bb, o.op ≠ .select cs bb := fun cs bb => Region.noSelect_spec (chk_sel hch) i o cs bb ho
    have hlook : ∀ t ∈ o.looksAt ops, ¬ ∃ p ∈ pu, p.2 = t ∧ lk listed p.1 = false := by
      rintro t ht ⟨p, hp1, rfl, hp2⟩
      obtain ⟨_, _, _, _, hq⟩ := chk_pu hch p hp1
      have := anc_listed hcl 12 p.1 i hidep ((hq i o ho).2 ht)
      rw [this] at hp2
      cases hp2
    have hset : ∀ j, lk (listed.setIfInBounds i true) j = (lk listed j || Nat.beq i j) := fun j => lk_set (by omega)
    have hcl' : ∀ j, lk (listed.setIfInBounds i true) j = true → ∀ e ∈ depsOf ops j, lk (listed.setIfInBounds i true) e = true := by
      intro j hj e he
      rw [hset, Bool.or_eq_true] at hj
      rw [hset, Bool.or_eq_true]
      rcases hj with hj | hj
      · exact .inl (hcl j hj e he)
      · obtain rfl := Nat.eq_of_beq_eq_true hj
        exact .inl (hidep e he)
    unfold wpOp
    simp only [ho]
    by_cases hpu : pu.any (fun q => Nat.beq q.1 i) = true
    · obtain ⟨p, hp1, hpi⟩ := List.any_eq_true.1 hpu
      obtain rfl := Nat.eq_of_beq_eq_true hpi
      obtain ⟨o1, v, ho1, hv, hwb, hrun⟩ := hp p hp1 hiun
      obtain ⟨o2, ho2, hgn, hds, hq⟩ := chk_pu hch p hp1
      obtain rfl : o = o1 := by rw [ho] at ho1; exact Option.some.inj ho1
      obtain rfl : o = o2 := by rw [ho] at ho2; exact Option.some.inj ho2
      have hwant : Region.wanted o (yielded ops a.tmps) = true := (looks_ev hr hlook).2.trans hwb
      rw [if_pos hwant]
      refine .inl ?_
      unfold Oper.wp
      have hS1 : S w := hS.resolve_right fun h => by rw [h p hp1] at hiun; cases hiun
      rw [execOp_congr o hns (looks_ev hr hlook).1, hrun w hS1, Oper.upon_value, hds]
      refine ih k _ l _ b w (by omega) (by simpa using hs) hl ?_ hcl' ⟨hr.df, by simp [Act.put, hr.sz], fun x hx => ?_⟩ (.inl hS1) ?_ hx
      · intro j hj
        rw [hset, hm j hj]
        by_cases hj' : p.1 = j
        · subst hj'; simp [hpu]
        · have : Nat.beq p.1 j = false := by
            cases hb : Nat.beq p.1 j
            · rfl
            · exact absurd (Nat.eq_of_beq_eq_true hb) hj'
          rw [this]; simp
      · simp only [Act.put, Array.getElem?_setIfInBounds]
        split
        · rename_i he
          subst he
          rw [if_pos (by rw [hr.sz]; exact (Array.getElem?_eq_some_iff.1 hv).1), hv]
        · rename_i hne
          refine hr.tm x ?_
          rintro ⟨p', hp', rfl, hl'⟩
          refine hx ⟨p', hp', rfl, ?_⟩
          rw [hset, hl']
          cases hb : Nat.beq p.1 p'.1
          · rfl
          · exfalso
            have he := Nat.eq_of_beq_eq_true hb
            obtain ⟨o3, ho3, _, hds3, _⟩ := chk_pu hch p' hp'
            rw [← he, ho] at ho3
            obtain rfl := Option.some.inj ho3
            rw [hds] at hds3
            exact hne (Option.some.inj hds3)
      · intro p' hp' hl'
        rw [hset, Bool.or_eq_false_iff] at hl'
        exact hp p' hp' hl'.1
    · have hpu' : pu.any (fun q => Nat.beq q.1 i) = false := by
        cases hh : pu.any (fun q => Nat.beq q.1 i) with
        | true => exact absurd hh hpu
        | false => rfl
      cases k with
      | zero => exact hx.elim
      | succ k =>
      have hil : i ∈ Region.ready .any ops l := (ready_iff hl).2 ⟨hilt, by rw [hm i hilt, hiun, hpu']; rfl, fun e he => by
        rw [hm e (by have := chk_dep hch i e he; omega), hidep e he]; rfl⟩
      obtain ⟨o', ho', hx'⟩ := hx.2 i hil
      obtain rfl : o = o' := by rw [ho] at ho'; exact Option.some.inj ho'
      have key := step_rl (Q := Q) (bad' := fun x => ∃ p ∈ pu, p.2 = x ∧ lk (listed.setIfInBounds i true) p.1 = false) (K' := wpAny P .any ops Q fuel (listed.setIfInBounds i true)) hns hr hlook (fun x hx => .inr fun hbad => by
          obtain ⟨p, hp1, hp2, hp3⟩ := hbad
          refine hx ⟨p, hp1, hp2, ?_⟩
          rw [hset, hp3]
          cases hb : Nat.beq i p.1
          · rfl
          · exfalso
            refine hpu (List.any_eq_true.2 ⟨p, hp1, ?_⟩)
            rw [Nat.eq_of_beq_eq_true hb, Nat.beq_refl]) ?_ hx'
      · split
        · rename_i hw; rw [if_pos hw] at key; exact .inl key
        · rename_i hw; rw [if_neg hw] at key; exact key
      · rintro a' b' w' hr' ⟨u, df, rfl⟩ ⟨hS', hx2⟩
        have hS2 : S w' ∨ ∀ p ∈ pu, lk (listed.setIfInBounds i true) p.1 = true := hS'.imp id fun hl p hp1 => by
          rw [hset, Bool.or_eq_true]
          exact .inl (anc_listed hcl 12 p.1 i hidep (List.all_eq_true.1 hl p hp1))
        refine ih k _ _ a' _ w' (by omega) (by simpa using hs) (by simpa using hl) ?_ hcl' hr' hS2 ?_ hx2
        · intro j hj
          rw [lk_set (by omega), hset, hm j hj]
          cases lk listed j <;> cases Nat.beq i j <;> simp
        · intro p hp1 hl'
          rw [hset, Bool.or_eq_false_iff] at hl'
          obtain ⟨o1, v, ho1, hv, hwb, hrun⟩ := hp p hp1 hl'.1
          obtain ⟨o2, ho2, hgn, hds, hq⟩ := chk_pu hch p hp1
          obtain rfl : o1 = o2 := by rw [ho1] at ho2; exact Option.some.inj ho2
          have hno : ∀ d, o.dst = some d → d ≠ p.2 ∧ d ∉ o1.looksAt ops := by
            intro d hd
            rcases (hq i o ho).1 d hd with he | ⟨h3, h4⟩
            · subst he; simp at hl'
            · refine ⟨h3, ?_⟩
              rcases h4 with h4 | h4 | h4
              · rw [hpu'] at h4; cases h4
              · exact h4
              · have := anc_listed hcl 12 p.1 i hidep h4
                rw [hl'.1] at this; cases this
          refine ⟨o1, v, ho1, ?_, (wanted_put (ops := ops) o1 { b with defers := df } o.dst u fun d hd => (hno d hd).2).trans hwb, fun w'' hS'' => ?_⟩
          · cases hd : o.dst with
            | none => simpa [Act.put, hd] using hv
            | some d => simp only [Act.put]; rw [Array.getElem?_setIfInBounds_ne (hno d hd).1]; exact hv
          · rw [← hrun w'' hS'']
            congr 1
            refine execOp_congr o1 (fun cs bb => Region.noSelect_spec (chk_sel hch) p.1 o1 cs bb ho1) fun x hx => ?_
            refine (Act.eval_put (a := { b with defers := df }) fun d hd hxd => (hno d hd).2 ?_).trans (by cases x <;> rfl)
            subst hxd
            exact List.mem_append_left _ (List.mem_filterMap.2 ⟨.tmp d, by simpa using hx, rfl⟩)

def mskOrd (ops : Array Oper) (pu : List (Nat × Nat)) (m : Array Bool) : Bool :=
  Nat.beq m.size ops.size && (List.range ops.size).all fun i => lk m i == pu.any (fun q => Nat.beq q.1 i)
end

section
variable {P : Program} {Q : Exit → Act → World → Prop} {S : World → Prop} {w w0 : World} {L : List (Nat × Obj)} {R : List Row} {n : Nat} {f : Nat → Value}
/-- a region that draws its order -/
theorem w_orders {id : Nat} {l : List Oper} (cx : Cxr w0 w L R) (hm : P.follows .mixedOrders = true) (pu : List (Nat × Nat)) (m : Array Bool) (S : World → Prop) (g : Nat → Value)
    (hch : chkOrd l.toArray pu = true) (hmk : mskOrd l.toArray pu m = true) (hn : ∀ p ∈ pu, p.2 < n) (hag : ∀ x, (∀ p ∈ pu, p.2 ≠ x) → f x = g x)
    (hwt : ∀ p ∈ pu, ∃ o, l[p.1]? = some o ∧ Region.wanted o (yielded l.toArray (St n g).tmps) = true)
    (hp : ∀ w', S w' → ∀ p ∈ pu, ∃ o, l[p.1]? = some o ∧ (execOp (ev n g) o).run P w' = .ok (.value (g p.2)) w')
    (h : ∀ w', Cxr w0 w' L R → Below w.heap.size w w' → w'.heap = w.heap → S w' ∧ wpX P l.toArray pu Q S (l.length + 1) m (St n g) w') : (Code.region id l.toArray true).wp P Q (St n f) w := by
  refine wp_region_any hm ?_
  obtain ⟨hS, hX⟩ := h w.drew cx.draw ⟨rfl, rfl, rfl, Nat.le_refl _, fun _ _ => rfl⟩ rfl
  unfold mskOrd at hmk
  simp only [Bool.and_eq_true, Nat.beq_eq, List.all_eq_true, List.mem_range, beq_iff_eq] at hmk
  have hsz : (Array.replicate l.toArray.size false).size = l.toArray.size := by simp
  have hf : ∀ j, lk (Array.replicate l.toArray.size false) j = false := by
    intro j
    unfold lk
    by_cases hj : j < l.length <;> simp [hj]
  refine orders_go hch _ _ _ m (St n f) (St n g) w.drew ?_ hsz hmk.1 (fun i hi => by rw [hf, hmk.2 i hi]; simp) (fun j hj => by rw [hf] at hj; cases hj) ⟨rfl, by simp [St], fun x hx => ?_⟩ (.inl hS) ?_ hX
  · have := List.count_le_length (a := false) (l := (Array.replicate l.toArray.size false).toList)
    simp at this ⊢
  · simp only [St, Array.getElem?_ofFn]
    split
    · rw [hag x fun p hp e => hx ⟨p, hp, e, hf _⟩]
    · rfl
  · intro p hp1 _
    obtain ⟨o, _, _, _⟩ := chk_pu hch p hp1
    obtain ⟨o', ho', _⟩ : ∃ o, l.toArray[p.1]? = some o ∧ True := ⟨o, by assumption, trivial⟩
    refine ⟨o', g p.2, ho', ?_, ?_, fun w' hw => ?_⟩
    · simp only [St, Array.getElem?_ofFn]
      rw [dif_pos (hn p hp1)]
    · obtain ⟨o2, h2, h3⟩ := hwt p hp1
      obtain rfl : o' = o2 := by rw [List.getElem?_toArray] at ho'; rw [ho'] at h2; exact Option.some.inj h2
      exact h3
    · obtain ⟨o2, h2, h3⟩ := hp w' hw p hp1
      obtain rfl : o' = o2 := by rw [List.getElem?_toArray] at ho'; rw [ho'] at h2; exact Option.some.inj h2
      rw [eval_St]; exact h3
variable {ops : Array Oper} {l : Array Bool} {k : Nat} {a : Act} {pu : List (Nat × Nat)}
theorem x_done (hr : Region.ready .any ops l = []) (h : Q .normal a w) : wpX P ops pu Q S (k + 1) l a w := by
  refine ⟨fun _ => h, ?_⟩
  rw [hr]; intro i hi; cases hi
theorem x_one {i : Nat} {o : Oper} (hr : Region.ready .any ops l = [i]) (ho : ops[i]? = some o) (h : wpList P ops (Fin0 fun a' w' => (S w' ∨ lateB ops pu i = true) ∧ wpX P ops pu Q S k (l.setIfInBounds i true) a' w') [o] a w) : wpX P ops pu Q S (k + 1) l a w := by
  refine ⟨fun h0 => ?_, ?_⟩
  · rw [hr] at h0; cases h0
  · rw [hr]
    intro j hj
    obtain rfl : j = i := by simpa using hj
    exact ⟨o, ho, h⟩
theorem x_two {i j : Nat} {o u : Oper} (hr : Region.ready .any ops l = [i, j]) (ho : ops[i]? = some o) (hu : ops[j]? = some u) (h : wpList P ops (Fin0 fun a' w' => (S w' ∨ lateB ops pu i = true) ∧ wpX P ops pu Q S k (l.setIfInBounds i true) a' w') [o] a w)
    (h' : wpList P ops (Fin0 fun a' w' => (S w' ∨ lateB ops pu j = true) ∧ wpX P ops pu Q S k (l.setIfInBounds j true) a' w') [u] a w) : wpX P ops pu Q S (k + 1) l a w := by
  refine ⟨fun h0 => ?_, ?_⟩
  · rw [hr] at h0; cases h0
  · rw [hr]
    intro x hx
    have hx' : x = i ∨ x = j := by simpa using hx
    rcases hx' with rfl | rfl
    · exact ⟨o, ho, h⟩
    · exact ⟨u, hu, h'⟩
theorem wnt_none {o : Oper} {t : Array Value} (hg : o.guard = none) : Region.wanted o (yielded ops t) = true := by simp [Region.wanted, hg]
theorem wnt_some {o : Oper} {j dj : Nat} {pol : Bool} (hg : o.guard = some (j, pol)) (hj : (ops[j]?).bind (·.dst) = some dj) (hc : WantB (ev n f (.tmp dj)) pol true) : Region.wanted o (yielded ops (St n f).tmps) = true :=
  wanted_St hg hj hc
theorem x_next {K : Act → World → Prop} (h : K a w) : wpList P ops (Fin0 K) [] a w := h

/-- the operations that only read, one by one -/
def wpPu (P : Program) (ops : Array Oper) (n : Nat) (S : World → Prop) (F : (Nat → Value) → Prop) : List (Nat × Nat) → (Nat → Value) → Prop
  | [], f => F f
  | (i, d) :: r, f => ∃ o v, ops[i]? = some o ∧ Region.wanted o (yielded ops (St n f).tmps) = true ∧ (∀ w', S w' → (execOp (ev n f) o).run P w' = .ok (.value v) w') ∧ wpPu P ops n S F r (upd f d v)
def incr : List (Nat × Nat) → Bool
  | [] => true
  | p :: r => r.all (fun q => Nat.blt p.1 q.1) && incr r
theorem upd_ne {f : Nat → Value} {d x : Nat} {v : Value} (h : x ≠ d) : upd f d v x = f x := by rw [upd_eq, if_neg h]
theorem upd_self {f : Nat → Value} {d : Nat} {v : Value} : upd f d v d = v := by rw [upd_eq, if_pos rfl]

theorem wpPu_spec {pu : List (Nat × Nat)} {F : (Nat → Value) → Prop} (hch : chkOrd ops pu = true) : ∀ (r : List (Nat × Nat)) (f : Nat → Value), (∀ p ∈ r, p ∈ pu) → incr r = true → wpPu P ops n S F r f →
    ∃ g, F g ∧ (∀ x, (∀ p ∈ r, p.2 ≠ x) → f x = g x) ∧ ∀ p ∈ r, ∃ o, ops[p.1]? = some o ∧ Region.wanted o (yielded ops (St n g).tmps) = true ∧ ∀ w', S w' → (execOp (ev n g) o).run P w' = .ok (.value (g p.2)) w' := by
  intro r
  induction r with
  | nil => intro f _ _ h; exact ⟨f, h, fun _ _ => rfl, fun p hp => by cases hp⟩
  | cons p r ih =>
    intro f hsub hinc h
    obtain ⟨i, d⟩ := p
    obtain ⟨o, v, ho, hw, hv, hr⟩ := h
    simp only [incr, Bool.and_eq_true, List.all_eq_true] at hinc
    obtain ⟨g, hF, hag, hall⟩ := ih _ (fun q hq => hsub q (List.mem_cons_of_mem _ hq)) hinc.2 hr
    obtain ⟨o1, ho1, _, hd1, hq1⟩ := chk_pu hch (i, d) (hsub _ (List.mem_cons_self ..))
    obtain rfl : o = o1 := by rw [ho] at ho1; exact Option.some.inj ho1
    have hno : ∀ q ∈ (i, d) :: r, q.2 ∉ o.looksAt ops := by
      intro q hq hm
      obtain ⟨_, _, _, _, hq2⟩ := chk_pu hch q (hsub q hq)
      have ha := (hq2 i o ho).2 hm
      have hlt : ∀ k a b, isAnc ops k a b = true → a < b := by
        intro k
        induction k with
        | zero => intro a b h; simp [isAnc] at h
        | succ k ihk =>
          intro a b h
          simp only [isAnc, List.any_eq_true, Bool.or_eq_true, beq_iff_eq] at h
          obtain ⟨e, he, rfl | h⟩ := h
          · exact chk_dep hch b e he
          · exact Nat.lt_trans (ihk a e h) (chk_dep hch b e he)
      have h1 := hlt _ _ _ ha
      rcases List.mem_cons.1 hq with rfl | hq
      · simp at h1
      · have := hinc.1 q hq
        simp at this
        omega
    have hd2 : ∀ q ∈ r, q.2 ≠ d := by
      intro q hq e
      obtain ⟨oq, hoq, _, hdq, hqq⟩ := chk_pu hch q (hsub q (List.mem_cons_of_mem _ hq))
      rcases (hqq i o ho).1 d hd1 with h1 | ⟨h1, _⟩
      · have := hinc.1 q hq
        simp at this
        omega
      · exact h1 e.symm
    have hfg : ∀ t ∈ o.looksAt ops, f t = g t := by
      intro t ht
      have h1 : t ≠ d := fun e => hno (i, d) (List.mem_cons_self ..) (by subst e; exact ht)
      rw [← hag t fun q hq e => hno q (List.mem_cons_of_mem _ hq) (by subst e; exact ht), upd_ne h1]
    have hrl : Rl (fun x => x ∉ o.looksAt ops) (St n f) (St n g) := ⟨rfl, by simp [St], fun x hx => by
      simp only [St, Array.getElem?_ofFn]
      split
      · rw [hfg x (Classical.not_not.1 hx)]
      · rfl⟩
    have hlk := looks_ev (ops := ops) hrl (fun t ht => fun h => h ht)
    refine ⟨g, hF, fun x hx => ?_, fun q hq => ?_⟩
    · rw [← hag x fun q hq => hx q (List.mem_cons_of_mem _ hq), upd_ne fun e => hx (i, d) (List.mem_cons_self ..) e.symm]
    · rcases List.mem_cons.1 hq with rfl | hq
      · refine ⟨o, ho, hlk.2.symm.trans hw, fun w' hS => ?_⟩
        have e : execOp (ev n g) o = execOp (ev n f) o := by
          rw [← eval_St, ← eval_St]
          exact (execOp_congr o (fun cs bb => Region.noSelect_spec (chk_sel hch) i o cs bb ho) hlk.1).symm
        have e2 : g d = v := by rw [← hag d hd2, upd_self]
        rw [e, e2]
        exact hv w' hS
      · exact hall q hq

/-- a region that draws its order: first what only reads, then the rest in each order -/
theorem w_ord {id : Nat} {l : List Oper} {Ls : List (Nat × Obj)} (cx : Cxr w0 w L R) (cxS : Cxr w0 w Ls []) (hm : P.follows .mixedOrders = true) (pu : List (Nat × Nat)) (m : Array Bool)
    (hch : chkOrd l.toArray pu = true) (hmk : mskOrd l.toArray pu m = true) (hn : pu.all (fun p => Nat.blt p.2 n) = true) (hi : incr pu = true)
    (h : wpPu P l.toArray n (fun w' => Cxr w0 w' Ls []) (fun g => ∀ w', Cxr w0 w' L R → Below w.heap.size w w' → wpX P l.toArray pu Q (fun w' => Cxr w0 w' Ls []) (l.length + 1) m (St n g) w') pu f) : (Code.region id l.toArray true).wp P Q (St n f) w := by
  obtain ⟨g, hF, hag, hall⟩ := wpPu_spec hch pu f (fun _ h => h) hi h
  refine w_orders cx hm pu m (fun w' => Cxr w0 w' Ls []) g hch hmk (fun p hp => by have := List.all_eq_true.1 hn p hp; simpa using this) hag (fun p hp => ?_) (fun w' hS p hp => ?_) fun w' hc hb he => ⟨cxS.call hb, hF w' hc hb⟩
  · obtain ⟨o, h1, h2, _⟩ := hall p hp; exact ⟨o, by simpa using h1, h2⟩
  · obtain ⟨o, h1, _, h2⟩ := hall p hp; exact ⟨o, by simpa using h1, h2 w' hS⟩
theorem pu_one {F : (Nat → Value) → Prop} {i d : Nat} {r : List (Nat × Nat)} {o : Oper} {v : Value} (ho : ops[i]? = some o) (hw : Region.wanted o (yielded ops (St n f).tmps) = true)
    (hv : ∀ w', S w' → (execOp (ev n f) o).run P w' = .ok (.value v) w') (h : wpPu P ops n S F r (upd f d v)) : wpPu P ops n S F ((i, d) :: r) f := ⟨o, v, ho, hw, hv, h⟩
theorem pu_nil {F : (Nat → Value) → Prop} (h : F f) : wpPu P ops n S F [] f := h
theorem Cxr.noR (h : Cxr w0 w L R) : Cxr w0 w L [] := ⟨h.ext, h.own, h.lo, h.nd, by simp, by simp, by simp⟩
theorem Cxr.pick1 (h : Cxr w0 w L R) (i : Nat) {p : Nat × Obj} (hi : L[i]? = some p) : Cxr w0 w [p] [] :=
  ⟨h.ext, fun q hq => by obtain rfl : q = p := by simpa using hq
                         exact h.own q (List.mem_of_getElem? hi), fun q hq => by obtain rfl : q = p := by simpa using hq
                                                                                 exact h.lo q (List.mem_of_getElem? hi), by simp, by simp, by simp, by simp⟩
theorem Cxr.pick2 (h : Cxr w0 w L R) (i j : Nat) {p q : Nat × Obj} (hi : L[i]? = some p) (hj : L[j]? = some q) (hij : Nat.beq i j = false) : Cxr w0 w [p, q] [] := by
  refine ⟨h.ext, fun x hx => ?_, fun x hx => ?_, ?_, by simp, by simp, by simp⟩
  · simp at hx
    rcases hx with rfl | rfl
    · exact h.own _ (List.mem_of_getElem? hi)
    · exact h.own _ (List.mem_of_getElem? hj)
  · simp at hx
    rcases hx with rfl | rfl
    · exact h.lo _ (List.mem_of_getElem? hi)
    · exact h.lo _ (List.mem_of_getElem? hj)
  · simp only [List.map_cons, List.map_nil, List.nodup_cons, List.mem_cons, List.not_mem_nil, or_false, not_false_eq_true, List.nodup_nil, and_true]
    intro e
    have h1 : (L.map (·.1))[i]? = some p.1 := by simp [hi]
    have h2 : (L.map (·.1))[j]? = some p.1 := by simp [hj, e]
    have hlt : i < (L.map (·.1)).length := (List.getElem?_eq_some_iff.1 h1).1
    have := (List.getElem?_inj hlt h.nd).1 (h1.trans h2.symm)
    subst this
    rw [Nat.beq_refl] at hij
    cases hij
theorem Cxr.pick3 (h : Cxr w0 w L R) (i j k : Nat) {p q r : Nat × Obj} (hi : L[i]? = some p) (hj : L[j]? = some q) (hk : L[k]? = some r) (hd : (!Nat.beq i j && !Nat.beq i k && !Nat.beq j k) = true) : Cxr w0 w [p, q, r] [] := by
  have key : ∀ (i j : Nat) (p q : Nat × Obj), L[i]? = some p → L[j]? = some q → Nat.beq i j = false → p.1 ≠ q.1 := by
    intro i j p q hi hj hij e
    have h1 : (L.map (·.1))[i]? = some p.1 := by simp [hi]
    have h2 : (L.map (·.1))[j]? = some p.1 := by simp [hj, e]
    have hlt : i < (L.map (·.1)).length := (List.getElem?_eq_some_iff.1 h1).1
    have := (List.getElem?_inj hlt h.nd).1 (h1.trans h2.symm)
    subst this
    rw [Nat.beq_refl] at hij
    cases hij
  simp only [Bool.and_eq_true, Bool.not_eq_true'] at hd
  refine ⟨h.ext, fun x hx => ?_, fun x hx => ?_, ?_, by simp, by simp, by simp⟩
  · simp at hx
    rcases hx with rfl | rfl | rfl
    · exact h.own _ (List.mem_of_getElem? hi)
    · exact h.own _ (List.mem_of_getElem? hj)
    · exact h.own _ (List.mem_of_getElem? hk)
  · simp at hx
    rcases hx with rfl | rfl | rfl
    · exact h.lo _ (List.mem_of_getElem? hi)
    · exact h.lo _ (List.mem_of_getElem? hj)
    · exact h.lo _ (List.mem_of_getElem? hk)
  · have h1 := key i j p q hi hj hd.1.1
    have h2 := key i k p r hi hk hd.1.2
    have h3 := key j k q r hj hk hd.2
    simp [h1, h2, h3]
end
end Go.Dk
