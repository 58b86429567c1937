/-
  Regions that draw their order: the reckoning, and that it says what every run does.
-/
import Derived.Test.YthiafbkolhnadaaGreatDoorEk
set_option linter.unusedVariables false
set_option linter.unusedSimpArgs false
namespace Go.Ev
open Go Go.RowKit Go.Dk

/-! ### are two objects the same? -/
def eqB (a b : ByteArray) : Bool := eqU a.data.toList b.data.toList
where
  eqU : List UInt8 → List UInt8 → Bool
    | [], [] => true
    | x :: l, y :: r => Nat.beq x.toNat y.toNat && eqU l r
    | _, _ => false
theorem eqU_eq : ∀ {l r : List UInt8}, eqB.eqU l r = true → l = r
  | [], [], _ => rfl
  | [], _ :: _, h => by simp [eqB.eqU] at h
  | _ :: _, [], h => by simp [eqB.eqU] at h
  | x :: l, y :: r, h => by
    simp only [eqB.eqU, Bool.and_eq_true, Nat.beq_eq] at h
    rw [eqU_eq h.2, UInt8.toNat_inj.1 h.1]
theorem eqB_eq {a b : ByteArray} (h : eqB a b = true) : a = b := by
  have := eqU_eq h
  cases a; cases b
  simp only [ByteArray.mk.injEq]
  exact Array.ext' this
def eqI : Int → Int → Bool
  | .ofNat a, .ofNat b => Nat.beq a b
  | .negSucc a, .negSucc b => Nat.beq a b
  | _, _ => false
theorem eqI_eq {a b : Int} (h : eqI a b = true) : a = b := by
  cases a <;> cases b <;> simp [eqI] at h <;> rw [h]
def kN : IntKind → Nat
  | .i8 => 0 | .i16 => 1 | .i32 => 2 | .i64 => 3 | .u8 => 4 | .u16 => 5 | .u32 => 6 | .u64 => 7
theorem kN_eq {a b : IntKind} (h : kN a = kN b) : a = b := by cases a <;> cases b <;> first | rfl | (simp [kN] at h)
def eqV : Value → Value → Bool
  | .bool a, .bool b => a == b
  | .int k a, .int k' b => Nat.beq (kN k) (kN k') && eqI a b
  | .string a, .string b => eqB a b
  | .pointer none, .pointer none => true
  | .slice none l c, .slice none l' c' => Nat.beq l l' && Nat.beq c c'
  | .map none, .map none => true
  | .nilFunc, .nilFunc => true
  | .nilIface, .nilIface => true
  | _, _ => false
theorem eqV_eq {a b : Value} (h : eqV a b = true) : a = b := by
  unfold eqV at h
  split at h
  · simpa using h
  · simp only [Bool.and_eq_true, Nat.beq_eq] at h
    rw [kN_eq h.1, eqI_eq h.2]
  · rw [eqB_eq h]
  · rfl
  · simp only [Bool.and_eq_true, Nat.beq_eq] at h
    rw [h.1, h.2]
  · rfl
  · rfl
  · rfl
  · cases h
mutual
def eqA : AV → AV → Bool
  | .lit a, .lit b => eqV a b
  | .ptr a b, .ptr c d => Nat.beq a c && Nat.beq b d
  | .slc a b c d, .slc a' b' c' d' => Nat.beq a a' && Nat.beq b b' && Nat.beq c c' && Nat.beq d d'
  | .ref a, .ref b => Nat.beq a b
  | .agg l, .agg r => eqL l r
  | .tup l, .tup r => eqL l r
  | .ifc t a, .ifc u b => Nat.beq t u && eqA a b
  | .clo f l, .clo g r => Nat.beq f g && eqL l r
  | _, _ => false
def eqL : List AV → List AV → Bool
  | [], [] => true
  | a :: l, b :: r => eqA a b && eqL l r
  | _, _ => false
end
mutual
theorem eqA_eq : ∀ {a b : AV}, eqA a b = true → a = b
  | .lit a, b, h => by cases b <;> simp [eqA] at h; rw [eqV_eq h]
  | .ptr a c, b, h => by cases b <;> simp [eqA] at h; rw [h.1, h.2]
  | .slc a c d e, b, h => by cases b <;> simp [eqA] at h; obtain ⟨⟨⟨h1, h2⟩, h3⟩, h4⟩ := h; rw [h1, h2, h3, h4]
  | .ref a, b, h => by cases b <;> simp [eqA] at h; rw [h]
  | .agg l, b, h => by cases b <;> simp [eqA] at h; rw [eqL_eq h]
  | .tup l, b, h => by cases b <;> simp [eqA] at h; rw [eqL_eq h]
  | .ifc t a, b, h => by cases b <;> simp [eqA] at h; rw [h.1, eqA_eq h.2]
  | .clo f l, b, h => by cases b <;> simp [eqA] at h; rw [h.1, eqL_eq h.2]
theorem eqL_eq : ∀ {a b : List AV}, eqL a b = true → a = b
  | [], b, h => by cases b <;> simp [eqL] at h; rfl
  | x :: l, b, h => by
    cases b with
    | nil => simp [eqL] at h
    | cons y r => simp only [eqL, Bool.and_eq_true] at h; rw [eqA_eq h.1, eqL_eq h.2]
end
def eqO : Option AO → Option AO → Bool
  | none, none => true
  | some (.row e sz cs), some (.row e' sz' cs') => Nat.beq e e' && Nat.beq sz sz' && eqL cs cs'
  | some (.iter s p), some (.iter s' p') => eqB s s' && Nat.beq p p'
  | some (.map es), some (.map es') => eqL (es.map (·.1)) (es'.map (·.1)) && eqL (es.map (·.2)) (es'.map (·.2))
  | _, _ => false
theorem eqO_eq {a b : Option AO} (h : eqO a b = true) : a = b := by
  unfold eqO at h
  split at h
  · rfl
  · simp only [Bool.and_eq_true, Nat.beq_eq] at h
    rw [h.1.1, h.1.2, eqL_eq h.2]
  · simp only [Bool.and_eq_true, Nat.beq_eq] at h
    rw [eqB_eq h.1, h.2]
  · rename_i es es'
    simp only [Bool.and_eq_true] at h
    have h1 := eqL_eq h.1
    have h2 := eqL_eq h.2
    have : ∀ {l r : List (AV × AV)}, l.map (·.1) = r.map (·.1) → l.map (·.2) = r.map (·.2) → l = r := by
      intro l
      induction l with
      | nil => intro r ha hb; cases r <;> simp at ha; rfl
      | cons x l ih =>
        intro r ha hb
        cases r with
        | nil => simp at ha
        | cons y r =>
          simp only [List.map_cons, List.cons.injEq] at ha hb
          rw [ih ha.2 hb.2, Prod.ext ha.1 hb.1]
    rw [this h1 h2]
  · cases h

/-! ### what is ready -/
def lk (l : Array Bool) (i : Nat) : Bool := l.getD i false
section
variable {P : Program} {E : Env0} {cf : CF} {ops : Array Oper} {sz : Nat}
theorem getD_t {l : Array Bool} {i : Nat} (hi : i < l.size) : l.getD i true = lk l i := by
  unfold lk; simp [hi]
theorem lk_set {l : Array Bool} {i j : Nat} (hi : i < l.size) : lk (l.setIfInBounds i true) j = (lk l j || Nat.beq i j) := by
  unfold lk
  by_cases hij : i = j
  · subst hij; simp [hi]
  · have : Nat.beq i j = false := by
      cases hb : Nat.beq i j
      · rfl
      · exact absurd (Nat.eq_of_beq_eq_true hb) hij
    simp [this, Array.getElem?_setIfInBounds_ne hij]
theorem ready_iff {listed : Array Bool} {j : Nat} (hs : listed.size = ops.size) : j ∈ Region.ready .any ops listed ↔ lk listed j = false ∧ ∃ o, ops[j]? = some o ∧ ∀ e ∈ depsL o, lk listed e = true := by
  rw [mem_ready]
  constructor
  · rintro ⟨h0, o, ho, h1⟩
    have hj := (Array.getElem?_eq_some_iff.1 ho).1
    refine ⟨by rw [← getD_t (by omega)]; exact h0, o, ho, fun e he => ?_⟩
    simp only [depsL, List.mem_map, List.mem_filter, Array.mem_toList_iff] at he
    obtain ⟨ed, ⟨he1, he2⟩, rfl⟩ := he
    exact h1 ed he1 he2
  · rintro ⟨h0, o, ho, h1⟩
    have hj := (Array.getElem?_eq_some_iff.1 ho).1
    refine ⟨by rw [getD_t (by omega)]; exact h0, o, ho, fun e he hb => ?_⟩
    refine h1 e.on ?_
    simp only [depsL, List.mem_map, List.mem_filter, Array.mem_toList_iff]
    exact ⟨e, ⟨he, hb⟩, rfl⟩
theorem ready_end (hdep : ∀ j o, ops[j]? = some o → ∀ e ∈ depsL o, e < j) {listed : Array Bool} (hs : listed.size = ops.size) (h : Region.ready .any ops listed = []) : ∀ i, i < ops.size → lk listed i = true := by
  intro i
  induction i using Nat.strongRecOn with
  | _ i ih =>
    intro hi
    cases hl : lk listed i with
    | true => rfl
    | false =>
      have : i ∈ Region.ready .any ops listed := (ready_iff hs).2 ⟨hl, ops[i], Array.getElem?_eq_getElem hi, fun e he => ih e (hdep i _ (Array.getElem?_eq_getElem hi) e he) (by have := hdep i _ (Array.getElem?_eq_getElem hi) e he; omega)⟩
      rw [h] at this
      cases this
theorem count_set {l : Array Bool} {i : Nat} (hi : i < l.size) (h : lk l i = false) : (l.setIfInBounds i true).toList.count false + 1 = l.toList.count false := by
  have h0 : l.toList[i]'(by simpa using hi) = false := by
    simp only [lk] at h
    simpa [hi] using h
  have hpos : 0 < l.toList.count false := List.count_pos_iff.2 (by rw [← h0]; exact List.getElem_mem _)
  rw [Array.toList_setIfInBounds, List.count, List.countP_set (by simpa using hi), h0]
  unfold List.count at hpos
  have e1 : ((false : Bool) == false) = true := rfl
  have e2 : ((true : Bool) == false) = false := rfl
  rw [e1, e2, if_pos rfl, if_neg (by simp)]
  omega

/-! ### the order -/
def bitE (an : List Nat) (j i : Nat) : Bool := Nat.testBit (an.getD j 0) i
theorem anc_pre : ∀ {l : List Oper} {acc : List Nat} {k : Nat}, k < acc.length → (ancE l acc).getD k 0 = acc.getD k 0
  | [], acc, k, h => rfl
  | o :: l, acc, k, h => by
    simp only [ancE, fN_eq]
    rw [anc_pre (by simp; omega)]
    simp [List.getD, List.getElem?_append_left h]
theorem anc_step : ∀ {l : List Oper} {acc : List Nat} {j i : Nat} {o : Oper}, l[j]? = some o → (∀ e ∈ depsL o, e < acc.length + j) → ((ancE l acc).getD (acc.length + j) 0).testBit i = true → ∃ e ∈ depsL o, e = i ∨ ((ancE l acc).getD e 0).testBit i = true
  | [], acc, j, i, o, h, hd, hb => by simp at h
  | o' :: l, acc, 0, i, o, h, hd, hb => by
    simp only [List.getElem?_cons_zero, Option.some.injEq] at h
    subst h
    simp only [ancE, fN_eq, Nat.add_zero] at hb ⊢
    rw [anc_pre (by simp)] at hb
    simp only [List.getD, List.getElem?_append_right (Nat.le_refl _), Nat.sub_self, List.getElem?_cons_zero, Option.getD_some] at hb
    rcases mask_bit hb with h1 | ⟨e, h1, h2⟩
    · simp at h1
    · refine ⟨e, h1, h2.imp id fun h3 => ?_⟩
      have he := hd e h1
      rw [anc_pre (by simp; omega)]
      simp only [Nat.add_zero] at he
      simp only [List.getD, List.getElem?_append_left he]
      exact h3
  | o' :: l, acc, j + 1, i, o, h, hd, hb => by
    simp only [ancE, fN_eq] at hb ⊢
    have e : acc.length + (j + 1) = (acc ++ [maskE acc (depsL o') 0]).length + j := by simp; omega
    rw [e] at hb
    exact anc_step (by simpa using h) (fun e' he => by have := hd e' he; simp; omega) hb

def ixL : List Oper → Nat → List (Nat × Oper)
  | [], _ => []
  | o :: l, j => (j, o) :: ixL l (j + 1)
theorem ixL_mem : ∀ {l : List Oper} {j : Nat} {p : Nat × Oper}, p ∈ ixL l j → j ≤ p.1 ∧ l[p.1 - j]? = some p.2
  | [], j, p, h => by simp [ixL] at h
  | o :: l, j, p, h => by
    simp only [ixL, List.mem_cons] at h
    rcases h with rfl | h
    · simp
    · obtain ⟨h1, h2⟩ := ixL_mem h
      refine ⟨by omega, ?_⟩
      have : p.1 - j = (p.1 - (j + 1)) + 1 := by omega
      rw [this]; simpa using h2
def ordE (an : List Nat) : List (Nat × Oper) → List (Nat × Oper) → List (Nat × Oper)
  | [], ls => ls
  | (c, o) :: hs, ls => ls.filter (fun p => bitE an c p.1) ++ (c, o) :: ordE an hs (ls.filter fun p => !bitE an c p.1)
theorem ordE_mem {an : List Nat} : ∀ {hs ls : List (Nat × Oper)} {p : Nat × Oper}, p ∈ ordE an hs ls → p ∈ hs ∨ p ∈ ls
  | [], ls, p, h => .inr h
  | (c, o) :: hs, ls, p, h => by
    simp only [ordE, List.mem_append, List.mem_cons, List.mem_filter] at h
    rcases h with h | h | h
    · exact .inr h.1
    · exact .inl (by rw [h]; simp)
    · rcases ordE_mem h with h | h
      · exact .inl (List.mem_cons_of_mem _ h)
      · exact .inr (List.mem_filter.1 h).1

/-! ### the run -/
structure Pn where
  i : Nat
  o : Oper
  x : AV
  h : Tr AO
  n : Nat
  rest : List (Nat × Oper)
def runE (P : Program) (E : Env0) (cf : CF) (ops : Array Oper) (sz : Nat) : List (Nat × Oper) → Sg → Option (List Rec × Sg × Option Pn)
  | [], s => some ([], s, none)
  | (i, o) :: l, s => match recE P E cf ops sz i o s with
    | some (.inl r) => match runE P E cf ops sz l r.post with
      | some (tr, s', p) => some (r :: tr, s', p)
      | none => none
    | some (.inr (x, h, n)) => some ([], s, some ⟨i, o, x, h, n, l⟩)
    | none => none
theorem run_ok (hE : EnvOk P E) (hcf : CFOk P cf) : ∀ {l : List (Nat × Oper)} {s s' : Sg} {tr : List Rec} {p : Option Pn}, (∀ q ∈ l, ops[q.1]? = some q.2) → runE P E cf ops sz l s = some (tr, s', p) →
    TrOk P ops sz s tr s' ∧ match p with | none => True | some p => PanOk P ops p.i p.o s' p.x p.h p.n ∧ ∀ q ∈ p.rest, q ∈ l
  | [], s, s', tr, p, hl, h => by
    simp only [runE, Option.some.injEq, Prod.mk.injEq] at h
    obtain ⟨rfl, rfl, rfl⟩ := h
    exact ⟨rfl, trivial⟩
  | (i, o) :: l, s, s', tr, p, hl, h => by
    simp only [runE] at h
    have hop : ops[i]? = some o := hl (i, o) (List.mem_cons_self ..)
    cases hr : recE P E cf ops sz i o s with
    | none => simp [hr] at h
    | some r =>
      have hrec := rec_ok hE hcf hop hr
      cases r with
      | inl r =>
        simp only [hr] at h
        obtain ⟨h1, h2, h3, h4⟩ := hrec
        cases hrun : runE P E cf ops sz l r.post with
        | none => simp [hrun] at h
        | some res =>
          obtain ⟨tr', s1, p'⟩ := res
          simp only [hrun, Option.some.injEq, Prod.mk.injEq] at h
          obtain ⟨rfl, rfl, rfl⟩ := h
          obtain ⟨h5, h6⟩ := run_ok hE hcf (fun q hq => hl q (List.mem_cons_of_mem _ hq)) hrun
          refine ⟨⟨h3, h4, h5⟩, ?_⟩
          cases p' with
          | none => trivial
          | some p' => exact ⟨h6.1, fun q hq => List.mem_cons_of_mem _ (h6.2 q hq)⟩
      | inr xr =>
        obtain ⟨x, h', n'⟩ := xr
        simp only [hr, Option.some.injEq, Prod.mk.injEq] at h
        obtain ⟨rfl, rfl, rfl⟩ := h
        exact ⟨rfl, hrec, fun q hq => List.mem_cons_of_mem _ hq⟩

/-! ### the checks -/
def isDst (t : Nat) (r : Rec) : Bool := match r.o.dst with
  | none => false
  | some d => Nat.beq d t
theorem isDst_iff {t : Nat} {r : Rec} : isDst t r = true ↔ r.o.dst = some t := by
  unfold isDst
  cases r.o.dst with
  | none => simp
  | some d => simp
def atE (ops : Array Oper) (an : List Nat) (bf : List Rec) (r : Rec) (l : List Rec) : Bool :=
  (bf.all fun q => !Nat.beq q.i r.i) && (match r.o.dst with | none => true | some d => bf.all fun q => !isDst d q) &&
  (bif r.hv then bf.all (fun q => bitE an r.i q.i) else match rdE (resO (looksL ops r.o) r.pre.env) r.o with
    | none => true
    | some id => bf.all fun q => !q.hv || bitE an r.i q.i || eqO (q.pre.h.get id) (r.pre.h.get id)) &&
  (looksL ops r.o).all fun t => (bf.all fun q => !isDst t q || bitE an r.i q.i) && (l.all fun q => !isDst t q || bitE an q.i r.i)
def chkR (ops : Array Oper) (an : List Nat) : List Rec → List Rec → Bool
  | _, [] => true
  | bf, r :: l => atE ops an bf r l && chkR ops an (r :: bf) l
theorem chkR_at {an : List Nat} : ∀ {l1 bf l2 : List Rec} {r : Rec}, chkR ops an bf (l1 ++ r :: l2) = true → atE ops an (l1.reverse ++ bf) r l2 = true
  | [], bf, l2, r, h => by
    simp only [List.nil_append, chkR, Bool.and_eq_true] at h
    simpa using h.1
  | q :: l1, bf, l2, r, h => by
    simp only [List.cons_append, chkR, Bool.and_eq_true] at h
    have := chkR_at h.2
    simpa using this
theorem chk_ok {an : List Nat} {tr : List Rec} (h : chkR ops an [] tr = true) : ChkOk ops tr (fun i j => bitE an j i = true) := by
  have key : ∀ {l1 r l2}, tr = l1 ++ r :: l2 → atE ops an l1.reverse r l2 = true := by
    intro l1 r l2 e
    rw [e] at h
    simpa using chkR_at h
  have nd : ∀ {l bf : List Rec}, chkR ops an bf l = true → (l.map (·.i)).Nodup ∧ ∀ r ∈ l, ∀ q ∈ bf, q.i ≠ r.i := by
    intro l
    induction l with
    | nil => intro bf _; exact ⟨by simp, by simp⟩
    | cons r l ih =>
      intro bf hh
      simp only [chkR, Bool.and_eq_true] at hh
      obtain ⟨h1, h2⟩ := ih hh.2
      have h3 := hh.1
      unfold atE at h3
      simp only [Bool.and_eq_true, List.all_eq_true, Bool.not_eq_true'] at h3
      refine ⟨?_, fun q hq p hp => ?_⟩
      · simp only [List.map_cons, List.nodup_cons]
        refine ⟨fun hm => ?_, h1⟩
        obtain ⟨q, hq, e⟩ := List.mem_map.1 hm
        exact h2 q hq r (List.mem_cons_self ..) e.symm
      · rcases List.mem_cons.1 hq with rfl | hq
        · have := h3.1.1.1 p hp
          intro e; rw [e] at this; simp at this
        · exact h2 q hq p (List.mem_cons_of_mem _ hp)
  refine ⟨(nd h).1, fun l1 q l2 r l3 t e hq hr => ?_, fun l1 r l2 e hv q hq => ?_, fun l1 r l2 id e hv hrd q hq hqv => ?_, fun l1 r l2 t e ht q hq hd => ?_, fun l1 r l2 t e ht q hq hd => ?_⟩
  · have h1 := key (l1 := l1 ++ q :: l2) (r := r) (l2 := l3) (by rw [e]; simp)
    unfold atE at h1
    simp only [hr, Bool.and_eq_true, List.all_eq_true, Bool.not_eq_true'] at h1
    have := h1.1.1.2 q (by simp)
    rw [isDst_iff.2 hq] at this
    cases this
  · have h1 := key e
    unfold atE at h1
    simp only [Bool.and_eq_true] at h1
    have := h1.1.2
    rw [hv] at this
    simp only [cond_true, List.all_eq_true] at this
    exact this q (by simpa using hq)
  · have h1 := key e
    unfold atE at h1
    simp only [Bool.and_eq_true] at h1
    have := h1.1.2
    rw [hv] at this
    simp only [cond_false, hrd, List.all_eq_true, Bool.or_eq_true, Bool.not_eq_true'] at this
    rcases this q (by simpa using hq) with (h2 | h2) | h2
    · rw [hqv] at h2; cases h2
    · exact .inl h2
    · exact .inr (eqO_eq h2)
  · have h1 := key e
    unfold atE at h1
    simp only [Bool.and_eq_true, List.all_eq_true, Bool.or_eq_true, Bool.not_eq_true'] at h1
    rcases (h1.2 t ht).1 q (by simpa using hq) with h2 | h2
    · rw [isDst_iff.2 hd] at h2; cases h2
    · exact h2
  · have h1 := key e
    unfold atE at h1
    simp only [Bool.and_eq_true, List.all_eq_true, Bool.or_eq_true, Bool.not_eq_true'] at h1
    rcases (h1.2 t ht).2 q hq with h2 | h2
    · rw [isDst_iff.2 hd] at h2; cases h2
    · exact h2
def depsB : List Oper → Nat → Bool
  | [], _ => true
  | o :: l, j => (depsL o).all (fun e => Nat.blt e j) && depsB l (j + 1)
theorem depsB_ok : ∀ {l : List Oper} {k : Nat}, depsB l k = true → ∀ j o, l[j]? = some o → ∀ e ∈ depsL o, e < k + j
  | [], k, h, j, o, ho, e, he => by simp at ho
  | o' :: l, k, h, j, o, ho, e, he => by
    simp only [depsB, Bool.and_eq_true, List.all_eq_true, blt_iff, decide_eq_true_eq] at h
    cases j with
    | zero => simp at ho; subst ho; simpa using h.1 e he
    | succ j => have := depsB_ok h.2 j o (by simpa using ho) e he; omega
def eraseE {β : Type} : List Rec → Tr AV → (Tr AV → Option β) → Option β
  | [], env, k => k env
  | r :: l, env, k => match r.o.dst with
    | none => eraseE l env k
    | some t => Tr.setK none 20 env t fun env => eraseE l env k
theorem erase_ok {β : Type} : ∀ {l : List Rec} {env : Tr AV} {k : Tr AV → Option β} {r : β}, eraseE l env k = some r → ∃ env', k env' = some r ∧ ∀ t y, env'.get t = some y → env.get t = some y ∧ ∀ q ∈ l, q.o.dst ≠ some t
  | [], env, k, r, h => ⟨env, h, fun t y hy => ⟨hy, by simp⟩⟩
  | q :: l, env, k, r, h => by
    simp only [eraseE] at h
    cases hd : q.o.dst with
    | none =>
      rw [hd] at h
      obtain ⟨env', h1, h2⟩ := erase_ok h
      refine ⟨env', h1, fun t y hy => ⟨(h2 t y hy).1, fun p hp => ?_⟩⟩
      rcases List.mem_cons.1 hp with rfl | hp
      · rw [hd]; simp
      · exact (h2 t y hy).2 p hp
    | some d =>
      rw [hd] at h
      simp only at h
      obtain ⟨e1, h3, h4⟩ := Tr.setK_some h
      obtain ⟨env', h1, h2⟩ := erase_ok h3
      refine ⟨env', h1, fun t y hy => ?_⟩
      obtain ⟨h5, h6⟩ := h2 t y hy
      rw [h4] at h5
      split at h5
      · cases h5
      · rename_i hne
        refine ⟨h5, fun p hp => ?_⟩
        rcases List.mem_cons.1 hp with rfl | hp
        · rw [hd]; intro e; cases e; exact hne rfl
        · exact h6 p hp

/-- a region that draws its order -/
def drawE (P : Program) (E : Env0) (cf : CF) (sz : Nat) (ops : Array Oper) (s : Sg) : Option (Out × Sg) :=
  bif depsB ops.toList 0 then
    match runE P E cf ops sz (ordE (ancE ops.toList []) ((ixL ops.toList 0).filter fun p => isHv p.2.op) ((ixL ops.toList 0).filter fun p => !isHv p.2.op)) s with
    | some (tr, s', none) => bif chkR ops (ancE ops.toList []) [] tr && (List.range ops.size).all (fun i => memN i (tr.map (·.i))) then some (.nrm, s') else none
    | some (tr, s1, some p) => match runE P E cf ops sz (p.rest.filter fun q => !bitE (ancE ops.toList []) q.1 p.i && !isHv q.2.op) s1 with
      | some (tr2, _, none) => bif chkR ops (ancE ops.toList []) [] (tr ++ tr2) && tr2.all (fun q => !q.hv) && tr.all (fun q => bitE (ancE ops.toList []) p.i q.i) && (looksL ops p.o).all (fun t => tr2.all fun q => !isDst t q) &&
          (List.range ops.size).all (fun i => memN i ((tr ++ tr2).map (·.i)) || Nat.beq i p.i || bitE (ancE ops.toList []) i p.i) && (tr ++ tr2).all (fun q => !Nat.beq q.i p.i) then
          eraseE (tr ++ tr2) s.env fun env => some (.pan p.x, ⟨env, s.ds, p.h, p.n⟩)
        else none
      | _ => none
    | none => none
  else none
/-- every run comes where the reckoned one came -/
theorem draw_run {tr : List Rec} {s0 sF : Sg} {m0 : LM} {w0 : World} {an : List Nat} {Q : Exit → Act → World → Prop} (chk : ChkOk ops tr (fun i j => bitE an j i = true)) (hdep : ∀ j o, ops[j]? = some o → ∀ e ∈ depsL o, e < j)
    (hop : ∀ q ∈ tr, ops[q.i]? = some q.o) (hst : ∀ j o i, ops[j]? = some o → bitE an j i = true → ∃ e ∈ depsL o, e = i ∨ bitE an e i = true)
    (pc : Option (Nat × Oper × AV × Tr AO × Nat × Tr AV)) (hcov : ∀ i, i < ops.size → (∃ q ∈ tr, q.i = i) ∨ ∃ p, pc = some p ∧ (i = p.1 ∨ bitE an i p.1 = true))
    (hpc : ∀ p, pc = some p → PanFits P ops sz tr s0 (fun i j => bitE an j i = true) p.1 p.2.1 p.2.2.1 p.2.2.2.1 p.2.2.2.2.1 p.2.2.2.2.2 ∧ (∀ q ∈ tr, q.i ≠ p.1) ∧ ops[p.1]? = some p.2.1)
    (hQn : pc = none → ∀ m' a' w', Upd m0 w0 m' w' → SR P m' sF sz a' w' → Q .normal a' w')
    (hQp : ∀ p, pc = some p → ∀ m' a' w' v, Upd m0 w0 m' w' → SR P m' ⟨p.2.2.2.2.2, s0.ds, p.2.2.2.1, p.2.2.2.2.1⟩ sz a' w' → VR m' p.2.2.1 v → Q (.panic [⟨v, false, false⟩]) a' w') :
    ∀ (fuel : Nat) (listed : Array Bool) (a : Act) (w : World) (A B : List Rec) (sb : Sg) (mm : LM), listed.toList.count false ≤ fuel → listed.size = ops.size → (∀ j o, lk listed j = true → ops[j]? = some o → ∀ e ∈ depsL o, lk listed e = true) →
      (∀ p, pc = some p → lk listed p.1 = false) → Inv P ops sz tr s0 sF m0 w0 (lk listed) a w A B sb mm → wpAny P .any ops Q fuel listed a w := by
  have hclose : ∀ {L : Nat → Bool}, (∀ j o, L j = true → ops[j]? = some o → ∀ e ∈ depsL o, L e = true) → (∀ j, L j = true → j < ops.size) → ∀ j k, L j = true → bitE an j k = true → L k = true := by
    intro L hcl hlt j
    induction j using Nat.strongRecOn with
    | _ j ih =>
      intro k hj hb
      have hjo := Array.getElem?_eq_getElem (hlt j hj)
      obtain ⟨e, he, h1⟩ := hst j _ k hjo hb
      have hLe := hcl j _ hj hjo e he
      rcases h1 with rfl | h1
      · exact hLe
      · exact ih e (hdep j _ hjo e he) k hLe h1
  have hend : ∀ {listed : Array Bool} {a : Act} {w : World} {A B : List Rec} {sb : Sg} {mm : LM}, listed.size = ops.size → (∀ p, pc = some p → lk listed p.1 = false) → Inv P ops sz tr s0 sF m0 w0 (lk listed) a w A B sb mm → Region.ready .any ops listed = [] → Q .normal a w := by
    intro listed a w A B sb mm hs hp hI h0
    have hall := ready_end hdep hs h0
    have hnone : pc = none := by
      cases hpcc : pc with
      | none => rfl
      | some p =>
        have h1 := hp p hpcc
        rw [hall p.1 (Array.getElem?_eq_some_iff.1 (hpc p hpcc).2.2).1] at h1
        cases h1
    obtain ⟨m', h1, h2⟩ := hI.fin fun q hq => hall q.i (Array.getElem?_eq_some_iff.1 (hop q hq)).1
    exact hQn hnone m' a w h1 h2
  have hlt : ∀ {listed : Array Bool}, listed.size = ops.size → ∀ j, lk listed j = true → j < ops.size := by
    intro listed hs j hj
    rcases Nat.lt_or_ge j ops.size with h | h
    · exact h
    · simp [lk, Array.getElem?_eq_none (by omega : listed.size ≤ j)] at hj
  intro fuel
  induction fuel with
  | zero =>
    intro listed a w A B sb mm hf hs hcl hp hI
    have h0 : Region.ready .any ops listed = [] := by
      cases hrr : Region.ready .any ops listed with
      | nil => rfl
      | cons x xs =>
        have hx : x ∈ Region.ready .any ops listed := by rw [hrr]; exact List.mem_cons_self ..
        obtain ⟨h2, o, ho, _⟩ := (ready_iff hs).1 hx
        have := count_set (l := listed) (by have := (Array.getElem?_eq_some_iff.1 ho).1; omega) h2
        omega
    exact ⟨h0, hend hs hp hI h0⟩
  | succ fuel ih =>
    intro listed a w A B sb mm hf hs hcl hp hI
    refine ⟨hend hs hp hI, fun i hi => ?_⟩
    obtain ⟨hiun, o, ho, hidep⟩ := (ready_iff hs).1 hi
    have hilt := (Array.getElem?_eq_some_iff.1 ho).1
    have hcnt := count_set (l := listed) (by omega) hiun
    have hset : ∀ j, lk (listed.setIfInBounds i true) j = (lk listed j || Nat.beq i j) := fun j => lk_set (by omega)
    have hL : lk (listed.setIfInBounds i true) = addL (lk listed) i := by funext j; exact hset j
    have hcl' : ∀ j o, lk (listed.setIfInBounds i true) j = true → ops[j]? = some o → ∀ e ∈ depsL o, lk (listed.setIfInBounds i true) e = true := by
      intro j o' hj hjo e he
      rw [hset, Bool.or_eq_true] at hj
      rw [hset, Bool.or_eq_true]
      rcases hj with hj | hj
      · exact .inl (hcl j o' hj hjo e he)
      · obtain rfl := Nat.eq_of_beq_eq_true hj
        rw [ho] at hjo; cases hjo
        exact .inl (hidep e he)
    have hcloseL := hclose hcl (hlt hs)
    have hanc : ∀ j, bitE an i j = true → lk listed j = true := by
      intro j hb
      obtain ⟨e, he, h1⟩ := hst i o j ho hb
      rcases h1 with rfl | h1
      · exact hidep e he
      · exact hcloseL e j (hidep e he) h1
    unfold wpOp
    simp only [ho]
    have fin : (if Region.wanted o (yielded ops a.tmps) then o.wp P a w (wpAny P .any ops Q fuel (listed.setIfInBounds i true)) Q else wpAny P .any ops Q fuel (listed.setIfInBounds i true) (a.put o.dst undef) w) →
        if Region.wanted o (yielded ops a.tmps) then (o.wp P a w (wpAny P .any ops Q fuel (listed.setIfInBounds i true)) Q ∨ (o.asks P a w ∧ LetsOut Q)) else wpAny P .any ops Q fuel (listed.setIfInBounds i true) (a.put o.dst undef) w := by
      intro h
      split
      · rename_i hw; rw [if_pos hw] at h; exact .inl h
      · rename_i hw; rw [if_neg hw] at h; exact h
    refine fin ?_
    rcases hcov i hilt with ⟨r, hr, rfl⟩ | ⟨p, hpp, hip⟩
    · have hro := hop r hr
      rw [ho] at hro
      have hroe : o = r.o := by cases hro; rfl
      subst hroe
      have hrB : r ∈ B := by
        rw [hI.eq] at hr
        rcases List.mem_append.1 hr with h | h
        · have := hI.doneA r h
          rw [hiun] at this; cases this
        · exact h
      obtain ⟨B1, B2, hB⟩ := List.append_of_mem hrB
      have hpne : ∀ p, pc = some p → lk (listed.setIfInBounds r.i true) p.1 = false := by
        intro p hpp
        rw [hL, addL_ne (fun e => (hpc p hpp).2.1 r hr e.symm)]
        exact hp p hpp
      cases hv : r.hv with
      | false =>
        refine hI.light_step chk hB hv hiun hanc hcloseL fun a' w' mm' hI' => ?_
        rw [← hL] at hI'
        exact ih _ a' w' _ _ _ _ (by omega) (by simpa using hs) hcl' hpne hI'
      | true =>
        refine hI.heavy_step chk hB hv hiun hanc hcloseL fun a' w' A' B' sb' mm' hI' => ?_
        rw [← hL] at hI'
        exact ih _ a' w' _ _ _ _ (by omega) (by simpa using hs) hcl' hpne hI'
    · obtain ⟨hfit, hne, hpo⟩ := hpc p hpp
      have hip : i = p.1 := by
        rcases hip with h | h
        · exact h
        · have := hanc _ h
          rw [hp p hpp] at this; cases this
      subst hip
      rw [ho] at hpo
      have : o = p.2.1 := by cases hpo; rfl
      subst this
      exact hI.pan_step chk hfit hiun hanc hcloseL hne fun m' w' v h1 h2 h3 => hQp p hpp m' a w' v h1 h2 h3

theorem draw_ok (hm : P.follows .mixedOrders = true) (hE : EnvOk P E) (hcf : CFOk P cf) : DFOk P sz (drawE P E cf sz) := by
  intro id ops s m w a out s' Q hs h hg
  refine wp_region_any hm ?_
  unfold drawE at h
  rcases bif_some h with ⟨hdb, h⟩ | ⟨_, h⟩
  case inr => cases h
  have hdep : ∀ j o, ops[j]? = some o → ∀ e ∈ depsL o, e < j := by
    intro j o ho e he
    have := depsB_ok hdb j o (by simpa using ho) e he
    omega
  have hst : ∀ j o i, ops[j]? = some o → bitE (ancE ops.toList []) j i = true → ∃ e ∈ depsL o, e = i ∨ bitE (ancE ops.toList []) e i = true := by
    intro j o i ho hb
    have h1 := anc_step (l := ops.toList) (acc := []) (j := j) (i := i) (o := o) (by simpa using ho) (fun e he => by have := hdep j o ho e he; simpa using this) (by simpa [bitE] using hb)
    exact h1
  have hmem : ∀ q ∈ ordE (ancE ops.toList []) ((ixL ops.toList 0).filter fun p => isHv p.2.op) ((ixL ops.toList 0).filter fun p => !isHv p.2.op), ops[q.1]? = some q.2 := by
    intro q hq
    have : q ∈ ixL ops.toList 0 := by
      rcases ordE_mem hq with h | h
      · exact (List.mem_filter.1 h).1
      · exact (List.mem_filter.1 h).1
    have := (ixL_mem this).2
    simpa using this
  have start : ∀ {tr : List Rec} {sF : Sg}, TrOk P ops sz s tr sF → Inv P ops sz tr s sF m w (lk (Array.replicate ops.size false)) a { w with drawn := w.drawn + 1 } [] tr s m := by
    intro tr sF htr
    have hn : ∀ i, lk (Array.replicate ops.size false) i = false := by
      intro i
      unfold lk
      rw [Array.getD_eq_getD_getElem?, Array.getElem?_replicate]
      split <;> rfl
    have hrs : rs m s.n = m := by
      funext i
      unfold rs
      split
      · rfl
      · rename_i hge
        cases hmi : m i with
        | none => rfl
        | some l => exact absurd (hs.dom i l hmi) hge
    exact ⟨rfl, rfl, htr, .inl rfl, by simp, fun r _ _ => hn _, ⟨Le.refl m, rfl, rfl, rfl, Nat.le_refl _, fun _ _ _ => rfl, fun _ _ h => .inl h⟩, by rw [hrs]; exact ⟨fun i o hi => by
        obtain ⟨l, h1, h2⟩ := hs.hr.at_ i o hi
        exact ⟨l, h1, h2.keep rfl⟩, hs.hr.sep, hs.hr.bb⟩, hs.hr.bb, fun r _ hL => (by rw [hn] at hL; cases hL), fun id l hl => .inl (hs.dom id l hl), fun r _ hL => (by rw [hn] at hL; cases hL), fun t x _ hx => hs.env t x hx, hs.sz, hs.ds, hs.dom⟩
  have hcl0 : ∀ j o, lk (Array.replicate ops.size false) j = true → ops[j]? = some o → ∀ e ∈ depsL o, lk (Array.replicate ops.size false) e = true := by
    intro j o hj
    have : lk (Array.replicate ops.size false) j = false := by
      unfold lk
      rw [Array.getD_eq_getD_getElem?, Array.getElem?_replicate]
      split <;> rfl
    rw [this] at hj; cases hj
  have hcnt : (Array.replicate ops.size false).toList.count false ≤ ops.size := by simp
  have hups : ∀ {m' w'}, Upd m w m' w' → Upd m w m' w' := fun h => h
  split at h
  · rename_i tr sF hrun
    rcases bif_some h with ⟨hchk, h⟩ | ⟨_, h⟩
    case inr => cases h
    simp only [Option.some.injEq, Prod.mk.injEq] at h
    obtain ⟨rfl, rfl⟩ := h
    simp only [Bool.and_eq_true] at hchk
    obtain ⟨htr, _⟩ := run_ok hE hcf hmem hrun
    have hop : ∀ q ∈ tr, ops[q.i]? = some q.o := fun q hq => (htr.mem hq).1.op
    refine draw_run (m0 := m) (w0 := w) (s0 := s) (sF := sF) (an := ancE ops.toList []) (chk_ok hchk.1) hdep hop hst none (fun i hi => ?_) (fun p hp => by cases hp) (fun _ m' a' w' h1 h2 => hg m' a' w' .normal h1 h2 rfl) (fun p hp => by cases hp) ops.size _ a _ [] tr s m hcnt (by simp) hcl0 (fun p hp => by cases hp) (start htr)
    have h2 := List.all_eq_true.1 hchk.2 i (by simpa using hi)
    rw [memN_iff] at h2
    obtain ⟨q, hq, e⟩ := List.mem_map.1 h2
    exact .inl ⟨q, hq, e⟩
  · rename_i tr s1 p hrun
    split at h
    · rename_i tr2 s2 hrun2
      rcases bif_some h with ⟨hchk, h⟩ | ⟨_, h⟩
      case inr => cases h
      obtain ⟨env', h1, henv⟩ := erase_ok h
      simp only [Option.some.injEq, Prod.mk.injEq] at h1
      obtain ⟨rfl, rfl⟩ := h1
      simp only [Bool.and_eq_true] at hchk
      obtain ⟨⟨⟨⟨⟨c1, c2⟩, c3⟩, c4⟩, c5⟩, c6⟩ := hchk
      obtain ⟨htr, hpan, hrest⟩ := run_ok hE hcf hmem hrun
      obtain ⟨htr2, _⟩ := run_ok hE hcf (fun q hq => hmem q (hrest q (List.mem_filter.1 hq).1)) hrun2
      have htt := htr.join htr2
      have hop : ∀ q ∈ tr ++ tr2, ops[q.i]? = some q.o := fun q hq => (htt.mem hq).1.op
      refine draw_run (m0 := m) (w0 := w) (s0 := s) (sF := s2) (an := ancE ops.toList []) (chk_ok c1) hdep hop hst (some (p.i, p.o, p.x, p.h, p.n, env')) (fun i hi => ?_) (fun q hq => ?_) (fun hq => by cases hq) (fun q hq m' a' w' v h1 h2 h3 => ?_) ops.size _ a _ [] (tr ++ tr2) s m hcnt (by simp) hcl0 (fun q hq => ?_) (start htt)
      · have h2 := List.all_eq_true.1 c5 i (by simpa using hi)
        simp only [Bool.or_eq_true, memN_iff, Nat.beq_eq] at h2
        rcases h2 with (h2 | h2) | h2
        · obtain ⟨q, hq, e⟩ := List.mem_map.1 h2
          exact .inl ⟨q, hq, e⟩
        · exact .inr ⟨_, rfl, .inl h2⟩
        · exact .inr ⟨_, rfl, .inr h2⟩
      · cases hq
        refine ⟨⟨⟨tr, tr2, s1, rfl, htr, hpan, fun q hq => List.all_eq_true.1 c3 q hq, fun q hq => ?_, fun t ht q hq => ?_⟩, henv⟩, fun q hq => ?_, hpan.op⟩
        · have := List.all_eq_true.1 c2 q hq
          simpa using this
        · have := List.all_eq_true.1 (List.all_eq_true.1 c4 t ht) q hq
          intro e
          rw [isDst_iff.2 e] at this; cases this
        · have := List.all_eq_true.1 c6 q hq
          intro e
          simp only at e
          rw [e] at this; simp at this
      · cases hq
        exact hg m' a' w' _ h1 h2 ⟨v, rfl, h3⟩
      · cases hq
        unfold lk
        rw [Array.getD_eq_getD_getElem?, Array.getElem?_replicate]
        split <;> rfl
    · cases h
  · cases h
end
end Go.Ev
