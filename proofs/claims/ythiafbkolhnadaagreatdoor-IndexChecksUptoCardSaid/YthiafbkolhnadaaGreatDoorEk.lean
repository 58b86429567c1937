/-
  Regions that draw their order: the operations that change what is there, and the whole region.
-/
import Derived.Test.YthiafbkolhnadaaGreatDoorEj
set_option linter.unusedVariables false
set_option linter.unusedSimpArgs false
namespace Go.Ev
open Go Go.RowKit Go.Dk

section
variable {P : Program} {E : Env0} {cf : CF} {ops : Array Oper} {sz : Nat} {tr A B : List Rec} {s0 sF sb : Sg} {m0 mm : LM} {w0 w : World} {L : Nat → Bool} {a : Act} {An : Nat → Nat → Prop}

theorem Inv.heavy_step (h : Inv P ops sz tr s0 sF m0 w0 L a w A B sb mm) (chk : ChkOk ops tr An) {B1 B2 : List Rec} {r : Rec} (hB : B = B1 ++ r :: B2) (hv : r.hv = true) (hni : L r.i = false) (hanc : ∀ j, An j r.i → L j = true)
    (hcl : ∀ j k, L j = true → An k j → L k = true) {Q : Exit → Act → World → Prop} {K : Act → World → Prop} (hK : ∀ a' w' A' B' sb' mm', Inv P ops sz tr s0 sF m0 w0 (addL L r.i) a' w' A' B' sb' mm' → K a' w') :
    if Region.wanted r.o (yielded ops a.tmps) then r.o.wp P a w K Q else K (a.put r.o.dst undef) w := by
  have he : tr = (A ++ B1) ++ r :: B2 := by rw [h.eq, hB]; simp
  have hok := h.ok
  rw [he] at hok
  obtain ⟨ok1, okr, ok2⟩ := hok.split
  have hrB : r ∈ B := by rw [hB]; simp
  have hdone : ∀ q ∈ B1, L q.i = true := fun q hq => hanc _ (chk.before _ r _ he hv q (List.mem_append_right _ hq))
  have hlight : ∀ q ∈ B1, q.hv = false := by
    intro q hq
    cases hqv : q.hv with
    | false => rfl
    | true =>
      have h1 := h.waitB q (by rw [hB]; simp [hq]) hqv
      rw [hdone q hq] at h1; cases h1
  have hokB : TrOk P ops sz sb (B1 ++ r :: B2) sF := by rw [← hB]; exact h.okB
  obtain ⟨hC, _, _⟩ := hokB.split
  have hseg := h.seg hB hC hlight hdone
  have hlk : LkOk (rs mm r.pre.n) ops r.o r.pre.env a := by
    refine h.looks (i := r.i) he ok1 hanc hni hcl (fun t ht q hq hd => chk.slot1 _ r _ t he ht q hq hd) (fun t ht q hq hd => ?_)
    rcases List.mem_cons.1 hq with rfl | hq
    · exact .inl rfl
    · exact .inr (chk.slot2 _ r _ t he ht q hq hd)
  have hidx : ∀ q ∈ B1 ++ B2, q.i ≠ r.i := by
    intro q hq
    have hn := chk.idx
    rw [he] at hn
    refine nodup_ne hn ?_
    rcases List.mem_append.1 hq with hq | hq
    · exact .inl (List.mem_append_right _ hq)
    · exact .inr hq
  refine okr.heavy hv Q (rs mm r.pre.n) w a K hseg (rs_dom _ _) hlk fun m1 w1 v hu1 hr1 hd1 hv1 => ?_
  have hle2 : ∀ q ∈ B2, r.post.n ≤ q.pre.n := fun q hq => (ok2.mem hq).2.1
  -- the new map
  have hdom2 : ∀ id l, mm id = some l → id < r.pre.n ∨ (r.post.n ≤ id ∧ ∃ q ∈ B2, L q.i = true ∧ q.ob ≠ none ∧ q.pre.n = id) := by
    intro id l hl
    rcases h.dom id l hl with h1 | ⟨q, h1, h2, h3, h4⟩
    · have := hC.le; exact .inl (by omega)
    · rw [hB] at h1
      rcases List.mem_append.1 h1 with h1 | h1
      · have hm := hC.mem h1
        have hn := hm.1.ln (hlight q h1)
        cases hob : q.ob with
        | none => exact absurd hob h3
        | some ob => rw [hob] at hn; simp only at hn; have := hm.2.2; exact .inl (by omega)
      · rcases List.mem_cons.1 h1 with rfl | h1
        · exact absurd (okr.hob hv) h3
        · exact .inr ⟨by rw [← h4]; exact hle2 q h1, q, h1, h2, h3, h4⟩
  have hmle : Le mm (fun id => if id < r.post.n then m1 id else mm id) := by
    intro id l hl
    simp only
    rcases hdom2 id l hl with h1 | ⟨h1, _⟩
    · rw [if_pos (Nat.lt_of_lt_of_le h1 okr.le)]
      exact hu1.le id l (rs_get hl h1)
    · rw [if_neg (by omega)]; exact hl
  have hm1le : Le m1 (rs (fun id => if id < r.post.n then m1 id else mm id) r.post.n) := by
    intro id l hl
    have := hd1 id l hl
    show (if id < r.post.n then (if id < r.post.n then m1 id else mm id) else none) = some l
    rw [if_pos this, if_pos this]
    exact hl
  have hm1eq : rs (fun id => if id < r.post.n then m1 id else mm id) r.post.n = m1 := by
    funext id
    show (if id < r.post.n then (if id < r.post.n then m1 id else mm id) else none) = m1 id
    by_cases hlt : id < r.post.n
    · rw [if_pos hlt, if_pos hlt]
    · rw [if_neg hlt]
      cases hm : m1 id with
      | none => rfl
      | some l => exact absurd (hd1 id l hm) hlt
  have hupd : Upd mm w (fun id => if id < r.post.n then m1 id else mm id) w1 := by
    refine ⟨hmle, hu1.os, hu1.tape, hu1.output, hu1.size, fun b hb hn => hu1.keep b hb fun i l hi => hn i l (rs_sub _ _ i l hi), fun i l hl => ?_⟩
    change (if i < r.post.n then m1 i else mm i) = some l at hl
    split at hl
    · rcases hu1.new i l hl with h1 | ⟨j, l', h1, h2⟩ | h1
      · exact .inl (rs_sub _ _ i l h1)
      · exact .inr (.inl ⟨j, l', rs_sub _ _ j l' h1, h2⟩)
      · exact .inr (.inr h1)
    · exact .inl hl
  obtain ⟨s1, s2⟩ := h.slots chk he okr (v := v) hmle (hv1.mono hm1le)
  refine hK _ _ (A ++ B1 ++ [r]) B2 r.post _ ⟨by rw [he]; simp, TrOk.join ok1 ⟨rfl, okr, rfl⟩, ok2, .inr ⟨A ++ B1, r, rfl, hv⟩, fun q hq => ?_, fun q hq hqv => ?_, h.upd.trans hupd, by rw [hm1eq]; exact hr1, fun i l hl => ?_, fun q hq hL ob hob => ?_, fun id l hl => ?_, s1, s2, by rw [put_size]; exact h.size, by rw [put_defers]; exact h.ds, h.dom0⟩
  · rcases List.mem_append.1 hq with hq | hq
    · rcases List.mem_append.1 hq with hq | hq
      · exact addL_old (h.doneA q hq)
      · exact addL_old (hdone q hq)
    · have : q = r := by simpa using hq
      rw [this]; exact addL_new
  · rw [addL_ne (hidx q (List.mem_append_right _ hq))]
    exact h.waitB q (by rw [hB]; simp [hq]) hqv
  · change (if i < r.post.n then m1 i else mm i) = some l at hl
    split at hl
    · exact hr1.bb i l hl
    · exact Nat.lt_of_lt_of_le (h.bb i l hl) hu1.size
  · rw [addL_ne (hidx q (List.mem_append_right _ hq))] at hL
    obtain ⟨l, h1, h2, h3⟩ := h.ext q (by rw [hB]; simp [hq]) hL ob hob
    have hlt : l.b < w.heap.size := h.bb _ l h1
    have hqn := hle2 q hq
    have hnot : ∀ i l', rs mm r.pre.n i = some l' → l'.b ≠ l.b := by
      intro i l' hi
      obtain ⟨hi1, hi2⟩ := rs_some hi
      refine h3 i l' ?_ hi1
      have := okr.le
      omega
    refine ⟨l, hmle _ _ h1, (h2.mono (rs_mono hmle)).keep (hu1.keep _ hlt hnot), fun id l' hne hl' => ?_⟩
    change (if id < r.post.n then m1 id else mm id) = some l' at hl'
    split at hl'
    · rcases hu1.new id l' hl' with h4 | ⟨j, l2, h4, h5⟩ | h4
      · exact hnot _ _ h4
      · exact h5 ▸ hnot _ _ h4
      · omega
    · exact h3 id l' hne hl'
  · change (if id < r.post.n then m1 id else mm id) = some l at hl
    split at hl
    · rename_i hlt; exact .inl hlt
    · rename_i hge
      rcases hdom2 id l hl with h1 | ⟨_, q, h1, h2, h3⟩
      · have := okr.le; omega
      · exact .inr ⟨q, h1, addL_old h2, h3⟩

/-- all has run -/
theorem Inv.fin (h : Inv P ops sz tr s0 sF m0 w0 L a w A B sb mm) (hall : ∀ q ∈ tr, L q.i = true) : ∃ m', Upd m0 w0 m' w ∧ SR P m' sF sz a w := by
  have hdone : ∀ q ∈ B, L q.i = true := fun q hq => hall q (by rw [h.eq]; exact List.mem_append_right _ hq)
  have hlight : ∀ q ∈ B, q.hv = false := by
    intro q hq
    cases hqv : q.hv with
    | false => rfl
    | true =>
      have h1 := h.waitB q hq hqv
      rw [hdone q hq] at h1; cases h1
  have hseg := h.seg (C := B) (D := []) (by simp) h.okB hlight hdone
  refine ⟨rs mm sF.n, ⟨h.le0 h.ok.le, h.upd.os, h.upd.tape, h.upd.output, h.upd.size, h.upd.keep, fun i l hl => h.upd.new i l (rs_sub _ _ i l hl)⟩, hseg, rs_dom _ _, h.size, fun t x hx => ?_, by rw [h.ok.ds]; exact h.ds.mono (h.le0 h.ok.le)⟩
  rcases h.ok.env t x hx with ⟨q, hq, hqd, rfl⟩ | ⟨hno, hx0⟩
  · obtain ⟨v, h2, h3⟩ := h.sl1 q hq (hall q hq) t hqd
    exact ⟨v, h2, h3.mono (rs_le (h.ok.mem hq).2.2)⟩
  · obtain ⟨v, h2, h3⟩ := h.sl0 t x (fun r hr _ => hno r hr) hx0
    exact ⟨v, h2, h3.mono (h.le0 h.ok.le)⟩

/-- an operation that panics, when its turn comes -/
structure PanFits (P : Program) (ops : Array Oper) (sz : Nat) (tr : List Rec) (s0 : Sg) (An : Nat → Nat → Prop) (i : Nat) (o : Oper) (x : AV) (h' : Tr AO) (n' : Nat) (env' : Tr AV) : Prop where
  ex : ∃ t1 t2 s1, tr = t1 ++ t2 ∧ TrOk P ops sz s0 t1 s1 ∧ PanOk P ops i o s1 x h' n' ∧ (∀ q ∈ t1, An q.i i) ∧ (∀ q ∈ t2, q.hv = false) ∧ (∀ t, t ∈ looksL ops o → ∀ q ∈ t2, q.o.dst ≠ some t)
  env : ∀ t y, env'.get t = some y → s0.env.get t = some y ∧ ∀ q ∈ tr, q.o.dst ≠ some t
theorem Inv.pan_step (h : Inv P ops sz tr s0 sF m0 w0 L a w A B sb mm) (chk : ChkOk ops tr An) {i : Nat} {o : Oper} {x : AV} {h' : Tr AO} {n' : Nat} {env' : Tr AV} (hp : PanFits P ops sz tr s0 An i o x h' n' env') (hni : L i = false) (hanc : ∀ j, An j i → L j = true)
    (hcl : ∀ j k, L j = true → An k j → L k = true) (hin : ∀ q ∈ tr, q.i ≠ i) {Q : Exit → Act → World → Prop} {K : Act → World → Prop} (hQ : ∀ m' w' v, Upd m0 w0 m' w' → SR P m' ⟨env', s0.ds, h', n'⟩ sz a w' → VR m' x v → Q (.panic [⟨v, false, false⟩]) a w') :
    if Region.wanted o (yielded ops a.tmps) then o.wp P a w K Q else K (a.put o.dst undef) w := by
  obtain ⟨t1, t2, s1, he, ok1, hpan, hbef, hl2, hno2⟩ := hp.ex
  have hd1 : ∀ q ∈ t1, L q.i = true := fun q hq => hanc _ (hbef q hq)
  have hsplit : ∃ C, t1 = A ++ C ∧ B = C ++ t2 := by
    have e := h.eq.symm.trans he
    rcases List.append_eq_append_iff.1 e with ⟨c, h1, h2⟩ | ⟨c, h1, h2⟩
    · exact ⟨c, h1, h2⟩
    · rcases h.last with hA | ⟨A', r, hA, hrv⟩
      · rw [hA] at h1
        have h3 := List.append_eq_nil_iff.1 h1.symm
        exact ⟨[], by rw [h3.1, hA]; rfl, by rw [h2, h3.2]; rfl⟩
      · rcases List.eq_nil_or_concat c with rfl | ⟨c', y, rfl⟩
        · exact ⟨[], by rw [h1]; simp, by rw [h2]; rfl⟩
        · exfalso
          rw [hA, List.concat_eq_append, ← List.append_assoc] at h1
          have : r = y := by
            have := List.append_inj_right' h1 rfl
            simpa using this
          have h3 := hl2 y (by rw [h2]; simp)
          rw [← this, hrv] at h3; cases h3
  obtain ⟨C, hC1, hC2⟩ := hsplit
  have hdone : ∀ q ∈ C, L q.i = true := fun q hq => hd1 q (by rw [hC1]; exact List.mem_append_right _ hq)
  have hlight : ∀ q ∈ C, q.hv = false := by
    intro q hq
    cases hqv : q.hv with
    | false => rfl
    | true =>
      have h1 := h.waitB q (by rw [hC2]; simp [hq]) hqv
      rw [hdone q hq] at h1; cases h1
  have hokC : TrOk P ops sz sb C s1 := by
    have h1 := h.okB
    rw [hC2] at h1
    obtain ⟨s2, h2, h3⟩ := h1.append
    have h4 := h.okA.join h2
    rw [← hC1] at h4
    have : ∀ {l : List Rec} {s a b : Sg}, TrOk P ops sz s l a → TrOk P ops sz s l b → a = b := by
      intro l
      induction l with
      | nil => intro s a b ha hb; exact (show a = s from ha).trans (show b = s from hb).symm
      | cons r l ih => intro s a b ha hb; exact ih ha.2.2 hb.2.2
    rw [this ok1 h4]; exact h2
  have hseg := h.seg hC2 hokC hlight hdone
  have hlk : LkOk (rs mm s1.n) ops o s1.env a := by
    refine h.looks (i := i) he ok1 hanc hni hcl (fun t ht q hq hd => hbef q hq) (fun t ht q hq hd => absurd hd (hno2 t ht q hq))
  refine hpan.pan Q (rs mm s1.n) w a K hseg (rs_dom _ _) hlk fun m' w' v hu hr hd hv => ?_
  have hle0 : Le m0 (rs mm s1.n) := h.le0 ok1.le
  have hu0 : Upd m0 w0 (rs mm s1.n) w := ⟨hle0, h.upd.os, h.upd.tape, h.upd.output, h.upd.size, h.upd.keep, fun i l hl => h.upd.new i l (rs_sub _ _ i l hl)⟩
  refine hQ m' w' v (hu0.trans hu) ⟨hr, hd, h.size, fun t y hy => ?_, h.ds.mono (hle0.trans hu.le)⟩ hv
  obtain ⟨h1, h2⟩ := hp.env t y hy
  obtain ⟨u, h3, h4⟩ := h.sl0 t y (fun q hq _ => h2 q hq) h1
  exact ⟨u, h3, h4.mono (hle0.trans hu.le)⟩
end
end Go.Ev
