/-
  Own blocks that are given up; the result of a merge of values; merges of the same and of what is turned.
-/
import Derived.Test.YtmkihcdcgkdilaaMf
import Derived.Test.YtmkihcdcgkdilaaQu
set_option linter.unusedVariables false
set_option linter.unusedSimpArgs false
namespace Go.Dk
open Go Go.RowKit
section
variable {w0 w w' : World} {L L' : List (Nat × Obj)} {R : List Row}
theorem Cxr.subL (h : Cxr w0 w L R) (hs : L'.Sublist L) : Cxr w0 w L' R :=
  ⟨h.ext, fun p hp => h.own p (hs.subset hp), fun p hp => h.lo p (hs.subset hp), (hs.map _).nodup h.nd, h.rows, fun r hr k hk hm => h.off r hr k hk ((hs.map _).subset hm), h.pw⟩
/-- a block that was the call's own -/
theorem F.out (cx : Cxr w0 w L R) {i b : Nat} {o : Obj} (hi : L[i]? = some (b, o)) (h2 : ∀ p ∈ L', ∃ j, j ≠ i ∧ L[j]? = some p) : F w L' R b := by
  have hm := List.mem_of_getElem? hi
  refine ⟨cx.lt _ hm, fun hb => ?_, fun r hr e => cx.off r hr b e (List.mem_map.2 ⟨_, hm, rfl⟩)⟩
  obtain ⟨p, hp, hpb⟩ := List.mem_map.1 hb
  obtain ⟨j, hj, hjl⟩ := h2 p hp
  have h1 : (L.map (·.1))[i]? = some b := by simp [hi]
  have h3 : (L.map (·.1))[j]? = some b := by simp [hjl, hpb]
  have hlt : i < (L.map (·.1)).length := (List.getElem?_eq_some_iff.1 h1).1
  exact hj ((List.getElem?_inj hlt cx.nd).1 (h1.trans h3.symm)).symm
/-- what was there when the call began -/
theorem F.old (cx : Cxr w0 w L R) : ∀ b, b < w0.heap.size → F w L R b := fun b hb =>
  ⟨Nat.lt_of_lt_of_le hb cx.ext.size, fun hm => by obtain ⟨p, hp, rfl⟩ := List.mem_map.1 hm; have := cx.lo p hp; omega, fun r hr e => by
    have := ((cx.rows r hr).lt _ e).1; omega⟩
theorem Val.toF {v : V} {r : List Value} (h : Val w0 v r) (cx : Cxr w0 w L R) : RepV (F w L R) w v r := RepV.mono (F.old cx) (fun b hb => cx.ext.block b hb) _ _ h
end
theorem v_makeFunc3 {P : Program} {o : Oper} {w : World} {ρ : Operand → Value} {k : Nat} {x y z : Operand} {v u t : Value} (ho : o.op = .makeFunc (.func k) #[] #[x, y, z]) (hx : ρ x = v) (hy : ρ y = u) (hz : ρ z = t) : (execOp ρ o).run P w = .ok (.value (.func (.func k) #[] #[v, u, t])) w := by
  unfold execOp; rw [ho]; simp [Instr.makeFunc, hx, hy, hz]
/-- a list of choices that the caller holds -/
def Bls (w : World) (s : Value) (tk : List Bool) : Prop := ∃ ta tc tb o, s = .slice ta tk.length tc ∧ (0 < tk.length → ta = some ⟨tb, o, none⟩ ∧ tb < w.heap.size ∧ RowAt w tb o (tk.map Value.bool))
theorem Bls.up {w w' : World} {s : Value} {tk : List Bool} (h : Bls w s tk) (hb : Below w.heap.size w w') : Bls w' s tk := by
  obtain ⟨ta, tc, tb, o, e, h1⟩ := h
  exact ⟨ta, tc, tb, o, e, fun h0 => ⟨(h1 h0).1, Nat.lt_of_lt_of_le (h1 h0).2.1 hb.size, (h1 h0).2.2.up hb⟩⟩
theorem Bls.nil {w : World} : Bls w (.slice none 0 0) [] := ⟨none, 0, 0, 0, rfl, fun h => by simp at h⟩
/-- a merge's value and conflicts, made by a call -/
def ThP (w0 : World) (C : OV × List Cf) (y : Value) (w' : World) : Prop := ∃ (l : List Value) (x : Value) (rs : List (List Value)), y = .tuple #[.agg l.toArray, x] ∧ RepV (Fr w0 w') w' (C.1.getD nulV) l ∧ w'.ownsRow w0.heap.size 94 4 x C.2.length rs.flatten ∧ Rws (cfA (Fr w0 w') w') C.2 rs
theorem mg_some (E : V → V → Bool) (tk : List Bool) (d i : Nat) (p : List Stp) (b : OV) (o t : V) : ∃ u, (mg E tk (d + 1) i p b (some o) (some t)).1 = some u := by
  unfold mg
  split
  · exact ⟨_, rfl⟩
  · split
    · exact ⟨_, rfl⟩
    · split
      · exact ⟨_, rfl⟩
      · dsimp only; split <;> exact ⟨_, rfl⟩
/-- few conflicts, where there are few values -/
theorem mg_few {E : V → V → Bool} {tk : List Bool} {b o t : V} (hb : okd 48 b ∧ tsz 60 b ≤ 100) (ho : okd 48 o ∧ tsz 60 o ≤ 100) (ht : okd 48 t ∧ tsz 60 t ≤ 100) : (mg E tk 48 0 [] (some b) (some o) (some t)).2.length ≤ 300 := by
  have h := mg_cnt E tk 48 0 [] (some b) (some o) (some t)
  have h1 := tsz_deep 48 60 b (deep_of_okd _ _ hb.1) (by omega)
  have h2 := tsz_deep 48 60 o (deep_of_okd _ _ ho.1) (by omega)
  have h3 := tsz_deep 48 60 t (deep_of_okd _ _ ht.1) (by omega)
  have e1 : tO 48 (some b) = tsz 48 b := rfl
  have e2 : tO 48 (some o) = tsz 48 o := rfl
  have e3 : tO 48 (some t) = tsz 48 t := rfl
  rw [e1, e2, e3] at h
  omega
theorem mapsO_symm (b o t : OV) : mapsO b o t = mapsO b t o := by unfold mapsO; rw [Bool.and_comm (isMap o)]
/-- what all keys leave, taken by itself -/
theorem fold_all (M : Nat → List Stp → OV → OV → OV → OV × List Cf) {P : ByteArray → OV → Nat → Prop} {i : Nat} {p : List Stp} {b o t : OV} (hM : ∀ k j pp, P k (M j pp (fieldO k b) (fieldO k o) (fieldO k t)).1 (M j pp (fieldO k b) (fieldO k o) (fieldO k t)).2.length) :
    ∀ (ks : List ByteArray) (s : Fs × List Cf), ∃ g : ByteArray → OV × Nat, (∀ k, P k (g k).1 (g k).2) ∧ (ks.Nodup → (ks.foldl (mgStep M i p b o t) s).1 = s.1 ++ ks.flatMap (fun k => ((g k).1.map fun v => (k, v)).toList) ∧ (ks.foldl (mgStep M i p b o t) s).2.length = s.2.length + (ks.map fun k => (g k).2).sum)
  | [], s => ⟨fun k => ((M 0 [] (fieldO k b) (fieldO k o) (fieldO k t)).1, (M 0 [] (fieldO k b) (fieldO k o) (fieldO k t)).2.length), fun k => hM k 0 [], fun _ => by simp⟩
  | k :: ks, s => by
    obtain ⟨g, h1, h2⟩ := fold_all M hM ks (mgStep M i p b o t s k)
    refine ⟨fun x => if x = k then ((M (i + s.2.length) (p ++ [keyS k]) (fieldO k b) (fieldO k o) (fieldO k t)).1, (M (i + s.2.length) (p ++ [keyS k]) (fieldO k b) (fieldO k o) (fieldO k t)).2.length) else g x, fun x => ?_, fun hn => ?_⟩
    · by_cases hx : x = k
      · subst hx; simp only [if_pos]; exact hM _ _ _
      · simp only [if_neg hx]; exact h1 x
    · obtain ⟨hk, hn⟩ := List.nodup_cons.1 hn
      obtain ⟨e1, e2⟩ := h2 hn
      have hne : ∀ x ∈ ks, x ≠ k := fun x hx e => hk (e ▸ hx)
      have f1 : ks.flatMap (fun x => ((if x = k then ((M (i + s.2.length) (p ++ [keyS k]) (fieldO k b) (fieldO k o) (fieldO k t)).1, (M (i + s.2.length) (p ++ [keyS k]) (fieldO k b) (fieldO k o) (fieldO k t)).2.length) else g x).1.map fun v => (x, v)).toList) = ks.flatMap (fun x => ((g x).1.map fun v => (x, v)).toList) := by
        rw [List.flatMap_def, List.flatMap_def]
        congr 1
        exact List.map_congr_left fun x hx => by simp only [if_neg (hne x hx)]
      have f2 : (ks.map fun x => (if x = k then ((M (i + s.2.length) (p ++ [keyS k]) (fieldO k b) (fieldO k o) (fieldO k t)).1, (M (i + s.2.length) (p ++ [keyS k]) (fieldO k b) (fieldO k o) (fieldO k t)).2.length) else g x).2) = ks.map fun x => (g x).2 := List.map_congr_left fun x hx => by simp only [if_neg (hne x hx)]
      rw [List.foldl_cons, List.flatMap_cons, List.map_cons, List.sum_cons]
      simp only [if_pos]
      rw [f1, f2, e1, e2]
      constructor
      · simp only [mgStep, List.append_assoc]
      · simp only [mgStep, List.length_append]; omega
theorem hasF_flat {ks : List ByteArray} {g : ByteArray → OV} (k : ByteArray) : hasF k (ks.flatMap fun x => ((g x).map fun v => (x, v)).toList) = if hasK ks k then g k else none := by
  induction ks with
  | nil => rfl
  | cons x ks ih =>
    rw [List.flatMap_cons]
    have hap : ∀ (l l' : Fs), hasF k (l ++ l') = (hasF k l).or (hasF k l') := by
      intro l l'
      unfold hasF
      rw [List.find?_append]
      cases List.find? (fun kv : ByteArray × V => decide (kv.1 = k)) l <;> rfl
    rw [hap, ih]
    by_cases hx : x = k
    · subst hx
      have e : hasK (x :: ks) x = true := by simp [hasK]
      rw [e, if_pos rfl]
      cases hg : g x with
      | none =>
        have e2 : hasF x (Option.map (fun v => (x, v)) (none : OV)).toList = none := rfl
        rw [e2, Option.none_or]
        split <;> simp [hg]
      | some v =>
        have e2 : hasF x (Option.map (fun v => (x, v)) (some v)).toList = some v := by simp [hasF]
        rw [e2]; rfl
    · have : hasF k ((g x).map fun v => (x, v)).toList = none := by
        cases g x with
        | none => rfl
        | some v => simp [hasF, hx]
      rw [this, Option.none_or]
      have hk : hasK (x :: ks) k = hasK ks k := by simp [hasK, hx]
      rw [hk]
theorem keys_flat {ks : List ByteArray} {g : ByteArray → OV} : (keysOf (ks.flatMap fun x => ((g x).map fun v => (x, v)).toList)).Sublist ks := by
  induction ks with
  | nil => exact List.Sublist.slnil
  | cons x ks ih =>
    rw [List.flatMap_cons, keysOf_append]
    cases g x with
    | none => exact ih.cons x
    | some v => exact ih.cons_cons x
theorem sum_zero_of {ks ks' : List ByteArray} {f f' : ByteArray → Nat} (hp : ks.Perm ks') (hf : ∀ k, f k = f' k) : (ks.map f).sum = (ks'.map f').sum := by
  have e : f = f' := funext hf
  subst e
  exact (hp.map f).sum_nat
theorem mem_sum0 {f : ByteArray → Nat} : ∀ (l : List ByteArray) (x : ByteArray), x ∈ l → f x ≤ (l.map f).sum
  | y :: l, x, h => by
    rw [List.map_cons, List.sum_cons]
    rcases List.mem_cons.1 h with rfl | h
    · omega
    · have := mem_sum0 (f := f) l x h; omega
section
variable {E : V → V → Bool} (hE : ∀ x y, E x y = true ↔ canon x = canon y)
include hE
theorem E_refl (x : V) : E x x = true := (hE x x).2 rfl
theorem E_symm (x y : V) : E x y = E y x := by
  rw [Bool.eq_iff_iff, hE, hE]; exact ⟨Eq.symm, Eq.symm⟩
theorem E_trans {x y z : V} (h : E x y = true) (h' : E y z = true) : E x z = true := (hE x z).2 (((hE x y).1 h).trans ((hE y z).1 h'))
theorem eqO_refl (x : OV) : eqO E x x = true := by cases x with | none => rfl | some v => exact E_refl hE v
theorem eqO_symm (x y : OV) : eqO E x y = eqO E y x := by
  cases x <;> cases y <;> first | rfl | exact E_symm hE _ _
theorem eqO_trans : ∀ {x y z : OV}, eqO E x y = true → eqO E y z = true → eqO E x z = true
  | none, none, _, _, h' => h'
  | some _, some _, some _, h, h' => E_trans hE h h'
  | none, some _, _, h, _ => by cases h
  | some _, none, _, h, _ => by cases h
  | some _, some _, none, _, h' => by cases h'
theorem eqO_canon : ∀ {x y : OV}, eqO E x y = true → x.map canon = y.map canon
  | none, none, _ => rfl
  | some _, some _, h => congrArg some ((hE _ _).1 h)
  | none, some _, h => by cases h
  | some _, none, h => by cases h
theorem mg_s1 (tk : List Bool) (d i : Nat) (p : List Stp) (b o : OV) : mg E tk (d + 1) i p b o o = (o, []) := mg_1 (by rw [eqO_refl hE]; rfl)
theorem mg_s2 (tk : List Bool) (d i : Nat) (p : List Stp) (b o : OV) : mg E tk (d + 1) i p b o b = (o, []) := mg_1 (by rw [eqO_refl hE b, Bool.or_true])
theorem mg_s3 (tk : List Bool) (d i : Nat) (p : List Stp) (b t : V) : ∃ y, mg E tk (d + 1) i p (some b) (some b) (some t) = (some y, []) ∧ canon y = canon t ∧ (y = b ∨ y = t) := by
  by_cases h : (eqO E (some b) (some t) || eqO E (some t) (some b)) = true
  · refine ⟨b, mg_1 h, ?_, .inl rfl⟩
    rw [eqO_symm hE (some t), Bool.or_self] at h
    exact (hE b t).1 h
  · exact ⟨t, mg_2 (by simpa using h) (eqO_refl hE _), rfl, .inr rfl⟩
/-! ### both changes exchanged -/
/-- the merge with both changes exchanged: as many conflicts, and equal if there are none -/
theorem mg_turn {m : Nat} : ∀ (d i j : Nat) (p q : List Stp) (b o t : OV), GdO d m b → GdO d m o → GdO d m t → (mg E [] d i p b o t).2.length = (mg E [] d j q b t o).2.length ∧ ((mg E [] d i p b o t).2.length = 0 → eqO E (mg E [] d i p b o t).1 (mg E [] d j q b t o).1 = true)
  | 0, i, j, p, q, b, o, t, hgb, hgo, hgt => by
    cases o with
    | some u => exact (hgo u rfl).ok.elim
    | none =>
      cases t with
      | some u => exact (hgt u rfl).ok.elim
      | none => exact ⟨rfl, fun _ => rfl⟩
  | d + 1, i, j, p, q, b, o, t, hgb, hgo, hgt => by
    by_cases h1 : eqO E o t = true
    · rw [mg_1 (by rw [h1]; rfl), mg_1 (b := b) (o := t) (t := o) (by rw [eqO_symm hE t o, h1]; rfl)]
      exact ⟨rfl, fun _ => h1⟩
    have h1' : eqO E o t = false := by simpa using h1
    have h1s : eqO E t o = false := by rw [eqO_symm hE]; exact h1'
    by_cases h2 : eqO E t b = true
    · have h3 : eqO E o b = false := by
        cases h : eqO E o b with
        | false => rfl
        | true => exact absurd (eqO_trans hE h (by rw [eqO_symm hE]; exact h2)) h1
      rw [mg_1 (by rw [h2, Bool.or_true]), mg_2 (b := b) (o := t) (t := o) (by rw [h1s, h3]; rfl) h2]
      exact ⟨rfl, fun _ => eqO_refl hE _⟩
    have h2' : eqO E t b = false := by simpa using h2
    by_cases h3 : eqO E o b = true
    · rw [mg_2 (by rw [h1', h2']; rfl) h3, mg_1 (b := b) (o := t) (t := o) (by rw [h3, Bool.or_true])]
      exact ⟨rfl, fun _ => eqO_refl hE _⟩
    have h3' : eqO E o b = false := by simpa using h3
    by_cases h4 : mapsO b o t = true
    · rw [mg_3 (by rw [h1', h2']; rfl) h3' h4, mg_3 (b := b) (o := t) (t := o) (by rw [h1s, h3']; rfl) h2' (by rw [mapsO_symm]; exact h4)]
      obtain ⟨g1, p1, e1⟩ := fold_all (mg E [] d) (P := fun k r c => c = (mg E [] d 0 [] (fieldO k b) (fieldO k o) (fieldO k t)).2.length ∧ (c = 0 → ∀ j pp, eqO E r (mg E [] d j pp (fieldO k b) (fieldO k t) (fieldO k o)).1 = true)) (i := i) (p := p) (b := b) (o := o) (t := t) (fun k j pp => by
          have ha := mg_turn d j 0 pp [] (fieldO k b) (fieldO k o) (fieldO k t) (hgb.field k) (hgo.field k) (hgt.field k)
          have hb := mg_turn d 0 0 [] [] (fieldO k b) (fieldO k o) (fieldO k t) (hgb.field k) (hgo.field k) (hgt.field k)
          exact ⟨by omega, fun hc j' pp' => (mg_turn d j j' pp pp' (fieldO k b) (fieldO k o) (fieldO k t) (hgb.field k) (hgo.field k) (hgt.field k)).2 hc⟩) (keysO b o t) ([], [])
      obtain ⟨g2, p2, e2⟩ := fold_all (mg E [] d) (P := fun k r c => c = (mg E [] d 0 [] (fieldO k b) (fieldO k o) (fieldO k t)).2.length ∧ (∃ j pp, r = (mg E [] d j pp (fieldO k b) (fieldO k t) (fieldO k o)).1)) (i := j) (p := q) (b := b) (o := t) (t := o) (fun k j pp => by
          have ha := mg_turn d 0 j [] pp (fieldO k b) (fieldO k o) (fieldO k t) (hgb.field k) (hgo.field k) (hgt.field k)
          exact ⟨ha.1.symm, ⟨j, pp, rfl⟩⟩) (keysO b t o) ([], [])
      obtain ⟨e1a, e1b⟩ := e1 (keysO_nodup _ _ _)
      obtain ⟨e2a, e2b⟩ := e2 (keysO_nodup _ _ _)
      have hperm : (keysO b o t).Perm (keysO b t o) := (List.perm_ext_iff_of_nodup (keysO_nodup _ _ _) (keysO_nodup _ _ _)).2 fun k => by
        rw [keysO_mem, keysO_mem]
        constructor
        · rintro (h | h | h)
          · exact .inr (.inl h)
          · exact .inl h
          · exact .inr (.inr h)
        · rintro (h | h | h)
          · exact .inr (.inl h)
          · exact .inl h
          · exact .inr (.inr h)
      have hcs : ∀ k, (g1 k).2 = (g2 k).2 := fun k => (p1 k).1.trans (p2 k).1.symm
      refine ⟨?_, fun h0 => ?_⟩
      · dsimp only
        rw [e1b, e2b]
        have := sum_zero_of hperm hcs
        simp only [List.length_nil]; omega
      · dsimp only at h0 ⊢
        rw [e1b] at h0
        simp only [List.length_nil, Nat.zero_add] at h0
        have hz : ∀ k ∈ keysO b o t, (g1 k).2 = 0 := fun k hk => by
          have := mem_sum0 (f := fun k => (g1 k).2) (keysO b o t) k hk
          omega
        refine (hE _ _).2 (canon_map_eq ?_ ?_ fun k => ?_)
        · rw [e1a, List.nil_append]; exact (keys_flat (g := fun k => (g1 k).1)).nodup (keysO_nodup _ _ _)
        · rw [e2a, List.nil_append]; exact (keys_flat (g := fun k => (g2 k).1)).nodup (keysO_nodup _ _ _)
        · rw [e1a, e2a, List.nil_append, List.nil_append, hasF_flat (g := fun k => (g1 k).1), hasF_flat (g := fun k => (g2 k).1)]
          by_cases hk : k ∈ keysO b o t
          · rw [hasK_iff.2 hk, hasK_iff.2 (hperm.mem_iff.1 hk), if_pos rfl, if_pos rfl]
            obtain ⟨_, q1⟩ := p1 k
            obtain ⟨_, j', pp', r1⟩ := p2 k
            have := q1 (hz k hk) j' pp'
            rw [← r1] at this
            exact eqO_canon hE this
          · have n1 : hasK (keysO b o t) k = false := by
              cases h : hasK (keysO b o t) k with
              | false => rfl
              | true => exact absurd (hasK_iff.1 h) hk
            have n2 : hasK (keysO b t o) k = false := by
              cases h : hasK (keysO b t o) k with
              | false => rfl
              | true => exact absurd (hperm.mem_iff.2 (hasK_iff.1 h)) hk
            rw [n1, n2]
            rfl
    · have h4' : mapsO b o t = false := by simpa using h4
      rw [mg_4 (by rw [h1', h2']; rfl) h3' h4', mg_4 (b := b) (o := t) (t := o) (by rw [h1s, h3']; rfl) h2' (by rw [mapsO_symm]; exact h4')]
      exact ⟨rfl, fun h => by simp at h⟩
end
end Go.Dk
