/-
  Contents that partly lie in the arguments' blocks; overlays by place.
-/
import Derived.Test.YtmkihcdcgkdilaaVj
set_option linter.unusedVariables false
set_option linter.unusedSimpArgs false
namespace Go.Dk
open Go Go.RowKit
/-- blocks of A, or new ones that are not the call's own -/
def Da (A : Nat → Prop) (w0 w : World) (ids : List Nat) (v : Value) (b : Nat) : Prop := A b ∨ Dn w0 w ids v b
section
variable {A : Nat → Prop} {w0 wk w w' : World} {ids : List Nat} {v v' : Value}
theorem Da.lt (hA : ∀ b, A b → b < w0.heap.size) (h0 : w0.heap.size ≤ w.heap.size) : ∀ b, Da A w0 w ids v b → b < w.heap.size := by
  rintro b (h | h)
  · exact Nat.lt_of_lt_of_le (hA b h) h0
  · exact Dn.lt b h
theorem Da.step {m : Nat} (hs : wk.heap.size ≤ w'.heap.size) (hm : wk.heap.size ≤ m) (hn : ∀ q, v'.ownBlock = some q → v.ownBlock = some q ∨ m ≤ q) : ∀ b, Da A w0 wk ids v b → Da A w0 w' ids v' b := by
  rintro b (h | h)
  · exact .inl h
  · exact .inr (Dn.step hs hm hn b h)
theorem Kp.da (hA : ∀ b, A b → b < w0.heap.size) (h0 : w0.heap.size ≤ w.heap.size) (ids : List Nat) (v : Value) : Kp (Da A w0 w ids v) w w := Kp.refl (Da.lt hA h0)
theorem Kp.daId {g : Nat} (hA : ∀ b, A b → b < w0.heap.size) (h : Kp (Da A w0 wk ids v) wk w) (hg : w.grownBy w' (some g)) (hi : g ∈ ids) (hl : w0.heap.size ≤ g) : Kp (Da A w0 wk ids v) wk w' :=
  h.grown hg fun b hb e => by
    simp at e; subst e
    rcases hb with hb | hb
    · have := hA _ hb; omega
    · exact hb.2.1 hi
theorem Kp.daOwn {o : Option Nat} (hA : ∀ b, A b → b < w0.heap.size) (h : Kp (Da A w0 wk ids v) wk w) (hg : w.grownBy w' o) (ho : o = v.ownBlock) (hl : ∀ q, v.ownBlock = some q → w0.heap.size ≤ q) : Kp (Da A w0 wk ids v) wk w' :=
  h.grown hg fun b hb e => by
    subst ho
    rcases hb with hb | hb
    · have := hA _ hb; have := hl b e; omega
    · exact hb.2.2 e
theorem Da.swap {L : List (Nat × Obj)} {R : List Row} {r : Row} (cx : Cxr w0 w L (r :: R)) (hi : ∀ i ∈ ids, i ∈ L.map (·.1)) (hs : w.heap.size ≤ w'.heap.size) (hn : ∀ q, v'.ownBlock = some q → w.heap.size ≤ q) : ∀ b, Da A w0 w ids r.v b ∨ r.v.ownBlock = some b → Da A w0 w' ids v' b := by
  rintro b ((h | h) | h)
  · exact .inl h
  · exact .inr (Dn.swap cx hi hs hn b (.inl h))
  · exact .inr (Dn.swap cx hi hs hn b (.inr h))
/-- what a call gives that was given contents -/
theorem Da.res {wc wc' : World} (hA : ∀ b, A b → b < w0.heap.size) (h0 : w0.heap.size ≤ wc.heap.size) (hs0 : wk.heap.size ≤ wc.heap.size) (hs : wc'.heap.size ≤ w'.heap.size) (hcc : wc.heap.size ≤ wc'.heap.size) (hi : ∀ i ∈ ids, i < wc.heap.size) (hv : ∀ q, v.ownBlock = some q → q < wc.heap.size) {m : Nat} (hm : wc'.heap.size ≤ m) (hn : ∀ q, v'.ownBlock = some q → v.ownBlock = some q ∨ m ≤ q) : ∀ b, (Da A w0 wk ids v b ∨ Fr wc wc' b) → Da A w0 w' ids v' b := by
  rintro b (h | h)
  · exact Da.step (by omega) (by omega) hn b h
  · exact .inr (Dn.new h0 hs hi hv hm hn b h)
end
theorem Kp.res {A : Nat → Prop} {w0 wk wc wc' : World} {ids : List Nat} {v : Value} (hA : ∀ b, A b → b < w0.heap.size) (h0 : w0.heap.size ≤ wk.heap.size) (hs : wk.heap.size ≤ wc.heap.size) (hw : Below wc.heap.size wc wc') : Kp (fun b => Da A w0 wk ids v b ∨ Fr wc wc' b) wc' wc' :=
  Kp.refl fun b hb => by
    rcases hb with hb | hb
    · have := Da.lt hA h0 b hb; have := hw.size; omega
    · exact hb.2
theorem Kp.resOwn {A : Nat → Prop} {w0 wk wc wc' w w' : World} {ids : List Nat} {v : Value} {o : Option Nat} (hA : ∀ b, A b → b < w0.heap.size) (h : Kp (fun b => Da A w0 wk ids v b ∨ Fr wc wc' b) wc' w) (hg : w.grownBy w' o) (ho : o = v.ownBlock) (hl : ∀ q, v.ownBlock = some q → w0.heap.size ≤ q ∧ q < wc.heap.size) : Kp (fun b => Da A w0 wk ids v b ∨ Fr wc wc' b) wc' w' :=
  h.grown hg fun b hb e => by
    subst ho
    have := hl b e
    rcases hb with (hb | hb) | hb
    · have := hA _ hb; omega
    · exact hb.2.2 e
    · have := hb.1; omega
/-- a source to append: nil, or cells -/
def Src (w : World) (s : Value) (m : Nat) (news : List Value) : Prop := (s = .slice none 0 0 ∧ m = 0 ∧ news = []) ∨ ∃ ad c, s = .slice (some ad) m c ∧ ∀ j u, news[j]? = some u → w.cell? (ad.add j) = some u
theorem Src.up {w0 w : World} {s : Value} {m : Nat} {news : List Value} (h : Src w0 s m news) (hb : Below w0.heap.size w0 w) : Src w s m news := by
  rcases h with h | ⟨ad, c, e, h⟩
  · exact .inl h
  · refine .inr ⟨ad, c, e, fun j u hu => ?_⟩
    have hc := h j u hu
    rw [World.cell?_of_block (w := w0) (a := ad.add j) (hb.block _ (by have := block_lt_of_cell hc; simpa [Addr.add] using this))]
    exact hc
theorem src_fields {A : Nat → Prop} {w : World} {s : Value} {fs : List (ByteArray × V)} (h : RepF A w s fs) : ∃ rs, RowsF A w fs rs ∧ Src w s fs.length rs.flatten ∧ rs.flatten.length = fs.length * 14 ∧ rs.flatten.all (·.oneCell') = true := by
  obtain ⟨b, o, hs, hr⟩ := h
  obtain ⟨rs, h1, h2, h3, h4⟩ := RepFs.rows fs o hr
  refine ⟨rs, h1, ?_, h3, h4⟩
  rcases hs with ⟨h0, e⟩ | ⟨ad, c, e, _, ha⟩
  · refine .inl ⟨e, h0, List.eq_nil_of_length_eq_zero (by omega)⟩
  · refine .inr ⟨ad, c, e, fun j u hu => ?_⟩
    have h0 : 0 < fs.length := by have := (List.getElem?_eq_some_iff.1 hu).1; omega
    obtain ⟨rfl, _⟩ := ha h0
    rw [add_addr]
    exact h2 j u hu
section
variable {P : Program} {ops : Array Oper} {Q : Exit → Act → World → Prop} {rest : List Oper} {o : Oper} {n : Nat} {f : Nat → Value} {w w0 : World} {L : List (Nat × Obj)} {R : List Row}
theorem s_appendS {s x : Operand} {t e size bytes : Nat} {v sv : Value} {k m d : Nat} {xs news : List Value} (cx : Cxr w0 w L (⟨e, size, v, k, xs⟩ :: R)) (ei : EI P e size bytes) (ht : P.underlying t = some (.slice e))
    (hg : o.guard = none) (hd : o.dst = some d) (ho : o.op = .call { callee := .builtin .append, args := #[s, x], argTypes := #[t, t] }) (hs : ev n f s = v) (hx : ev n f x = sv) (hsrc : Src w sv m news)
    (hl : news.length = m * size) (h1 : news.all (·.oneCell') = true) (hb : (k + m) * bytes ≤ 140737488355328)
    (h : ∀ v' w', Cxr w0 w' L (⟨e, size, v', k + m, xs ++ news⟩ :: R) → w.grownBy w' v.ownBlock → (∀ q, v'.ownBlock = some q → v.ownBlock = some q ∨ w.heap.size ≤ q) → wpList P ops Q rest (St n (upd f d v')) w') : wpList P ops Q (o :: rest) (St n f) w := by
  rcases hsrc with ⟨rfl, rfl, rfl⟩ | ⟨ad, c, rfl, hc⟩
  · refine s_append0 cx ei ht hg hd ho hs hx (h v w ?_ ⟨rfl, rfl, rfl, Nat.le_refl _, fun _ _ _ => rfl⟩ fun q hq => .inl hq)
    simpa using cx
  · exact s_appendH cx ei ht hg hd ho hs hx hc hl h1 hb h
end
/-! ### by place -/
theorem erase_drop {k : ByteArray} {l : List (ByteArray × V)} {j : Nat} (hn : (keysOf l).Nodup) (hj : j < l.length) (he : l[j].1 = k) : dropF k l = l.eraseIdx j := by
  induction l generalizing j with
  | nil => simp at hj
  | cons x l ih =>
    unfold keysOf at hn
    rw [List.map_cons, List.nodup_cons] at hn
    unfold dropF at *
    cases j with
    | zero =>
      simp only [List.getElem_cons_zero] at he
      rw [List.filter_cons_of_neg (by simp [he]), List.eraseIdx_zero, List.tail_cons]
      refine List.filter_eq_self.2 fun kv hkv => ?_
      have : kv.1 ≠ k := fun e => hn.1 (List.mem_map.2 ⟨kv, hkv, by rw [e, he]⟩)
      simp [this]
    | succ j =>
      have hx : x.1 ≠ k := fun e => hn.1 (List.mem_map.2 ⟨l[j]'(by simpa using hj), List.getElem_mem _, by simpa [e] using he⟩)
      rw [List.filter_cons_of_pos (by simp [hx]), List.eraseIdx_cons_succ, ih hn.2 (by simpa using hj) (by simpa using he)]
theorem setF_place {k : ByteArray} {u : V} {l : List (ByteArray × V)} {j : Nat} (hn : (keysOf l).Nodup) (hj : j < l.length) (he : l[j].1 = k) : setF k u l = l.set j (l[j].1, u) := by
  induction l generalizing j with
  | nil => simp at hj
  | cons x l ih =>
    unfold keysOf at hn
    rw [List.map_cons, List.nodup_cons] at hn
    unfold setF at *
    cases j with
    | zero =>
      simp only [List.getElem_cons_zero] at he
      rw [List.map_cons, if_pos he, List.set_cons_zero]
      simp only [List.getElem_cons_zero, List.cons.injEq, true_and]
      conv => rhs; rw [← List.map_id l]
      apply List.map_congr_left
      intro kv hkv
      rw [if_neg fun e => hn.1 (List.mem_map.2 ⟨kv, hkv, by rw [e, he]⟩)]
      rfl
    | succ j =>
      have hx : x.1 ≠ k := fun e => hn.1 (List.mem_map.2 ⟨l[j]'(by simpa using hj), List.getElem_mem _, by simpa [e] using he⟩)
      rw [List.map_cons, if_neg hx, List.set_cons_succ, ih hn.2 (by simpa using hj) (by simpa using he)]
      simp
theorem dropF_none {k : ByteArray} {l : List (ByteArray × V)} (h : ∀ (j : Nat) kv, l[j]? = some kv → kv.1 ≠ k) : dropF k l = l := by
  unfold dropF
  refine List.filter_eq_self.2 fun kv hkv => ?_
  obtain ⟨j, hj⟩ := List.getElem?_of_mem hkv
  simp [h j kv hj]
theorem okd_pos {e : Nat} {v : V} (h : okd e v) : 0 < e := by
  cases e with
  | zero => exact h.elim
  | succ e => omega
theorem Lay.base1 {e mb mo i : Nat} {l0 fs l : List (ByteArray × V)} (h : Lay e mb mo l0 fs i l) (he : 0 < e) (h0 : ∀ kv ∈ l0, GdF e mb kv) {kv : ByteArray × V} (hi : fs[i]? = some kv) : Gd e mb ((hasF kv.1 l).getD nulV) := by
  cases e with
  | zero => omega
  | succ e => exact h.base h0 hi
/-! ### the same laid again -/
theorem hasF_dropF (k : ByteArray) (l : List (ByteArray × V)) : hasF k (dropF k l) = none := hasF_none fun j kv hj => by
  have := List.mem_of_getElem? hj
  unfold dropF at this
  have := (List.mem_filter.1 this).2
  simpa using this
theorem hasF_putF (k : ByteArray) (x : V) (l : List (ByteArray × V)) : hasF k (putF k x l) = some x := by
  unfold putF
  split
  · rename_i h
    induction l with
    | nil => simp [hasF] at h
    | cons kv l ih =>
      by_cases h1 : kv.1 = k
      · unfold hasF setF
        rw [List.map_cons, if_pos h1, List.find?_cons_of_pos (by simp [h1])]
        rfl
      · have h2 : hasF k (kv :: l) = hasF k l := by unfold hasF; rw [List.find?_cons_of_neg (by simp [h1])]
        rw [h2] at h
        have := ih h
        unfold hasF setF at *
        rw [List.map_cons, if_neg h1, List.find?_cons_of_neg (by simp [h1])]
        exact this
  · rename_i h
    have h0 : l.find? (fun kv => decide (kv.1 = k)) = none := by
      cases hf : l.find? (fun kv => decide (kv.1 = k)) with
      | none => rfl
      | some y => simp [hasF, hf] at h
    unfold hasF
    rw [List.find?_append, h0]
    simp
theorem fold_ne {d : Nat} {k : ByteArray} : ∀ (fs l0 : List (ByteArray × V)), k ∉ keysOf fs → hasF k (fs.foldl (stepF d) l0) = hasF k l0
  | [], _, _ => rfl
  | x :: fs, l0, h => by
    unfold keysOf at h
    simp only [List.map_cons, List.mem_cons, not_or] at h
    rw [List.foldl_cons, fold_ne fs _ h.2, hasF_step h.1]
theorem fold_has {d : Nat} : ∀ (fs l0 : List (ByteArray × V)) (kv : ByteArray × V), (keysOf fs).Nodup → kv ∈ fs → hasF kv.1 (fs.foldl (stepF d) l0) = if kv.2.sc.kind = 0 then none else some (ovl d ((hasF kv.1 l0).getD nulV) kv.2)
  | [], _, _, _, h => by cases h
  | x :: fs, l0, kv, hn, h => by
    unfold keysOf at hn
    rw [List.map_cons, List.nodup_cons] at hn
    rw [List.foldl_cons]
    rcases List.mem_cons.1 h with rfl | h
    · rw [fold_ne fs _ hn.1]
      unfold stepF
      split
      · exact hasF_dropF _ _
      · exact hasF_putF _ _ _
    · have hne : kv.1 ≠ x.1 := fun e => hn.1 (List.mem_map.2 ⟨kv, h, e⟩)
      rw [fold_has fs _ kv hn.2 h, hasF_step hne]
theorem setF_same {k : ByteArray} {x : V} {l : List (ByteArray × V)} (hn : (keysOf l).Nodup) (h : hasF k l = some x) : setF k x l = l := by
  unfold setF
  conv => rhs; rw [← List.map_id l]
  apply List.map_congr_left
  intro kv hkv
  split
  · rename_i he
    have h1 := hasF_mem h
    have h2 : kv = (k, x) := by
      obtain ⟨a, ha⟩ := List.getElem?_of_mem hkv
      obtain ⟨b, hb⟩ := List.getElem?_of_mem h1
      have e1 : (keysOf l)[a]? = some k := by unfold keysOf; rw [List.getElem?_map, ha, ← he]; rfl
      have e2 : (keysOf l)[b]? = some k := by unfold keysOf; rw [List.getElem?_map, hb]; rfl
      have := (List.getElem?_inj (List.getElem?_eq_some_iff.1 e1).1 hn).1 (e1.trans e2.symm)
      subst this
      rw [ha] at hb
      exact Option.some.inj hb
    rw [h2]; rfl
  · rfl
theorem fold_nodup {d : Nat} : ∀ (fs l0 : List (ByteArray × V)), (keysOf l0).Nodup → (keysOf (fs.foldl (stepF d) l0)).Nodup
  | [], _, h => h
  | x :: fs, l0, h => by
    rw [List.foldl_cons]
    refine fold_nodup fs _ ?_
    unfold stepF
    split
    · exact nodup_dropF h
    · exact nodup_putF h
theorem ovl_idem : ∀ (d e : Nat) (b o : V), okd e o → okd e b → ovl d (ovl d b o) o = ovl d b o := by
  intro d
  induction d with
  | zero => intro e b o _ _; rfl
  | succ d ih =>
    intro e b o ho hb
    by_cases h7 : o.sc.kind = 7
    · rw [ovl_map (b := b) h7, ovl_map h7]
      congr 1
      have e0 : (if (mapV (o.fields.foldl (stepF d) (if b.sc.kind = 7 then b.fields else []))).sc.kind = 7 then (mapV (o.fields.foldl (stepF d) (if b.sc.kind = 7 then b.fields else []))).fields else []) = o.fields.foldl (stepF d) (if b.sc.kind = 7 then b.fields else []) := rfl
      rw [e0]
      cases e with
      | zero => exact ho.elim
      | succ e =>
      have hn0 : (keysOf (if b.sc.kind = 7 then b.fields else [])).Nodup := by
        split
        · exact hb.2.1
        · exact List.nodup_nil
      have hk0 : ∀ kv ∈ (if b.sc.kind = 7 then b.fields else []), okd e kv.2 := by
        intro kv hk
        split at hk
        · exact hb.2.2.2 kv hk
        · cases hk
      generalize (if b.sc.kind = 7 then b.fields else []) = l0 at hn0 hk0
      have hnF := fold_nodup (d := d) o.fields l0 hn0
      have key : ∀ kv ∈ o.fields, stepF d (o.fields.foldl (stepF d) l0) kv = o.fields.foldl (stepF d) l0 := by
        intro kv hkv
        have hh := fold_has (d := d) o.fields l0 kv ho.2.1 hkv
        generalize o.fields.foldl (stepF d) l0 = F at hh hnF
        unfold stepF
        split
        · rename_i h0
          rw [if_pos h0] at hh
          refine dropF_none fun j kv' hj e' => ?_
          have : kv.1 ∈ keysOf F := List.mem_map.2 ⟨kv', List.mem_of_getElem? hj, e'⟩
          rw [← hasF_isSome] at this
          rw [hh] at this
          cases this
        · rename_i h0
          rw [if_neg h0] at hh
          have hoe := ho.2.2.2 kv hkv
          have hbe : okd e ((hasF kv.1 l0).getD nulV) := by
            cases hq : hasF kv.1 l0 with
            | none =>
              cases e with
              | zero => exact hoe.elim
              | succ e => exact (gd_nul e 0).ok
            | some u => exact hk0 _ (hasF_mem hq)
          have hx := ih e _ kv.2 hoe hbe
          have e1 : (hasF kv.1 F).getD nulV = ovl d ((hasF kv.1 l0).getD nulV) kv.2 := by rw [hh]; rfl
          rw [e1, hx]
          unfold putF
          rw [if_pos (by rw [hh]; rfl)]
          exact setF_same hnF hh
      have fin : ∀ (gs : List (ByteArray × V)) (l : List (ByteArray × V)), (∀ kv ∈ gs, stepF d l kv = l) → gs.foldl (stepF d) l = l := by
        intro gs
        induction gs with
        | nil => intro l _; rfl
        | cons g gs ihg =>
          intro l hl
          rw [List.foldl_cons, hl g (List.mem_cons_self ..)]
          exact ihg l fun kv hk => hl kv (List.mem_cons_of_mem _ hk)
      exact fin o.fields _ key
    · rw [ovl_else h7, ovl_else h7]
section
variable {P : Program} {ops : Array Oper} {pu : List (Nat × Nat)} {Q : Exit → Act → World → Prop} {S : World → Prop} {w : World} {l : Array Bool} {k : Nat} {a : Act}
theorem x_three {i j m : Nat} {o u t : Oper} (hr : Region.ready .any ops l = [i, j, m]) (ho : ops[i]? = some o) (hu : ops[j]? = some u) (ht : ops[m]? = some t) (h : wpList P ops (Fin0 fun a' w' => (S w' ∨ lateB ops pu i = true) ∧ wpX P ops pu Q S k (l.setIfInBounds i true) a' w') [o] a w)
    (h' : wpList P ops (Fin0 fun a' w' => (S w' ∨ lateB ops pu j = true) ∧ wpX P ops pu Q S k (l.setIfInBounds j true) a' w') [u] a w) (h'' : wpList P ops (Fin0 fun a' w' => (S w' ∨ lateB ops pu m = true) ∧ wpX P ops pu Q S k (l.setIfInBounds m true) a' w') [t] a w) : wpX P ops pu Q S (k + 1) l a w := by
  refine ⟨fun h0 => ?_, ?_⟩
  · rw [hr] at h0; cases h0
  · rw [hr]
    intro x hx
    have hx' : x = i ∨ x = j ∨ x = m := by simpa using hx
    rcases hx' with rfl | rfl | rfl
    · exact ⟨o, ho, h⟩
    · exact ⟨u, hu, h'⟩
    · exact ⟨t, ht, h''⟩
end
end Go.Dk
