/-
  The overlay of a delta gives the second value back; where there is no delta, there is a null.
-/
import Derived.Test.YtmkihcdcgkdilaaDd
set_option linter.unusedVariables false
set_option linter.unusedSimpArgs false
namespace Go.Dk
open Go Go.RowKit
theorem hasF_of_mem {l : Fs} (hn : (keysOf l).Nodup) {k : ByteArray} {x : V} (h : (k, x) ∈ l) : hasF k l = some x := by
  induction l with
  | nil => cases h
  | cons kv l ih =>
    have hc := List.nodup_cons.1 (by simpa [keysOf] using hn : (kv.1 :: keysOf l).Nodup)
    unfold hasF
    rcases List.mem_cons.1 h with rfl | h
    · simp
    · have hne : kv.1 ≠ k := fun e => hc.1 (e ▸ List.mem_map.2 ⟨_, h, rfl⟩)
      have := ih hc.2 h
      unfold hasF at this
      simp [List.find?_cons, hne, this]
theorem hasF_no {l : Fs} {k : ByteArray} (h : ∀ x, (k, x) ∉ l) : hasF k l = none := by
  cases hh : hasF k l with
  | none => rfl
  | some x => exact absurd (hasF_mem hh) (h x)
theorem nodup_fs {l : Fs} (hn : (keysOf l).Nodup) : l.Nodup := by
  have := keys_ne hn
  exact this.imp fun h e => h (by rw [e])
theorem mem_iff_hasF {l : Fs} (hn : (keysOf l).Nodup) (x : ByteArray × V) : x ∈ l ↔ hasF x.1 l = some x.2 := ⟨fun h => hasF_of_mem hn h, fun h => hasF_mem h⟩
theorem perm_of_hasF {X Y : Fs} (hx : (keysOf X).Nodup) (hy : (keysOf Y).Nodup) (h : ∀ k, hasF k X = hasF k Y) : X.Perm Y := by
  rw [List.perm_ext_iff_of_nodup (nodup_fs hx) (nodup_fs hy)]
  intro a
  rw [mem_iff_hasF hx, mem_iff_hasF hy, h]
def canM (l : Fs) : Fs := l.map fun kv => (kv.1, canon kv.2)
theorem keys_canM (l : Fs) : keysOf (canM l) = keysOf l := by unfold keysOf canM; rw [List.map_map]; rfl
theorem hasF_canM (k : ByteArray) : ∀ l : Fs, hasF k (canM l) = (hasF k l).map canon
  | [] => rfl
  | kv :: l => by
    have := hasF_canM k l
    unfold hasF canM at *
    rw [List.map_cons, List.find?_cons, List.find?_cons]
    by_cases h : kv.1 = k
    · simp [h]
    · simp only [h, decide_false]; exact this
theorem canon_map_eq {X Y : Fs} (hx : (keysOf X).Nodup) (hy : (keysOf Y).Nodup) (h : ∀ k, (hasF k X).map canon = (hasF k Y).map canon) : canon (mapV X) = canon (mapV Y) := by
  rw [canon_eq, canon_eq]
  have hp : (canM X).Perm (canM Y) := perm_of_hasF (by rw [keys_canM]; exact hx) (by rw [keys_canM]; exact hy) fun k => by rw [hasF_canM, hasF_canM, h]
  have e : sortF (canM X) = sortF (canM Y) := sortF_eq (by rw [keys_canM]; exact hy) ((sortF_perm _).trans hp) (sortF_sorted (by rw [keys_canM]; exact hx))
  have e2 : ((sortF X).map fun kv => (kv.1, canon kv.2)) = (sortF Y).map fun kv => (kv.1, canon kv.2) := by
    rw [← sortF_map, ← sortF_map]; exact e
  show V.mk (zk 7) [] _ _ = V.mk (zk 7) [] _ _
  simp only [mapV, V.fields, V.list]
  rw [e2]
/-- what is in a delta's list -/
theorem dlStep_cov {E : V → V → Bool} {f : V → V → Option V} {af : Fs} : ∀ (l : Fs) (o r : Fs), l.foldl (dlStep E f af) (some o) = some r → (∀ kv ∈ o, kv ∈ r) ∧ ∀ kv ∈ l, ((hasF kv.1 af).any fun old => E old kv.2) = false → ∃ x, f ((hasF kv.1 af).getD nulV) kv.2 = some x ∧ kv.2.sc.kind ≠ 0 ∧ (kv.1, x) ∈ r
  | [], o, r, h => by simp at h; subst h; exact ⟨fun _ h => h, fun _ h => by cases h⟩
  | kv :: l, o, r, h => by
    rw [List.foldl_cons] at h
    cases h1 : dlStep E f af (some o) kv with
    | none => rw [h1, dlStep_none] at h; cases h
    | some o' =>
      rw [h1] at h
      obtain ⟨h2, h3⟩ := dlStep_cov l o' r h
      unfold dlStep at h1
      simp only at h1
      split at h1
      · rename_i hany
        cases h1
        refine ⟨h2, fun kv' hk hn => ?_⟩
        rcases List.mem_cons.1 hk with rfl | hk
        · rw [hany] at hn; cases hn
        · exact h3 kv' hk hn
      · split at h1
        · cases h1
        · rename_i x hx
          split at h1
          · cases h1
          · rename_i hk0
            cases h1
            refine ⟨fun kv' hk => h2 kv' (List.mem_append_left _ hk), fun kv' hk hn => ?_⟩
            rcases List.mem_cons.1 hk with rfl | hk
            · exact ⟨x, hx, hk0, h2 _ (by simp)⟩
            · exact h3 kv' hk hn
theorem dlStep_keys {E : V → V → Bool} {f : V → V → Option V} {af : Fs} : ∀ (l o r : Fs), l.foldl (dlStep E f af) (some o) = some r → (keysOf l).Nodup → (keysOf o).Nodup → (∀ k ∈ keysOf l, k ∉ keysOf o) → (keysOf r).Nodup
  | [], o, r, h, _, ho, _ => by simp at h; subst h; exact ho
  | kv :: l, o, r, h, hl, ho, hd => by
    rw [List.foldl_cons] at h
    have hc := List.nodup_cons.1 (by simpa [keysOf] using hl : (kv.1 :: keysOf l).Nodup)
    cases h1 : dlStep E f af (some o) kv with
    | none => rw [h1, dlStep_none] at h; cases h
    | some o' =>
      rw [h1] at h
      have key : o' = o ∨ ∃ x, o' = o ++ [(kv.1, x)] := by
        unfold dlStep at h1
        simp only at h1
        split at h1
        · cases h1; exact .inl rfl
        · split at h1
          · cases h1
          · split at h1
            · cases h1
            · cases h1; exact .inr ⟨_, rfl⟩
      have hkl : kv.1 ∈ keysOf (kv :: l) := by simp [keysOf]
      rcases key with rfl | ⟨x, rfl⟩
      · exact dlStep_keys l _ r h hc.2 ho fun k hk => hd k (by simp [keysOf] at hk ⊢; exact .inr hk)
      · have e : keysOf (o ++ [(kv.1, x)]) = keysOf o ++ [kv.1] := by simp [keysOf]
        refine dlStep_keys l _ r h hc.2 ?_ fun k hk hm => ?_
        · rw [e, List.nodup_append]
          refine ⟨ho, by simp, fun a ha b hb => ?_⟩
          obtain rfl : b = kv.1 := by simpa using hb
          intro e; subst e
          exact hd _ hkl ha
        · rw [e] at hm
          rcases List.mem_append.1 hm with hm | hm
          · exact hd k (by simp [keysOf] at hk ⊢; exact .inr hk) hm
          · obtain rfl : k = kv.1 := by simpa using hm
            exact hc.1 hk
theorem keys_dlG {af bf : Fs} {k : ByteArray} : k ∈ keysOf (dlG af bf) ↔ k ∈ keysOf af ∧ k ∉ keysOf bf := by
  unfold dlG keysOf
  rw [List.map_map]
  constructor
  · intro h
    obtain ⟨kv, hk, rfl⟩ := List.mem_map.1 h
    obtain ⟨h1, h2⟩ := List.mem_filter.1 hk
    refine ⟨List.mem_map.2 ⟨kv, h1, rfl⟩, fun hm => ?_⟩
    have := hasF_isSome.2 (show kv.1 ∈ keysOf bf from hm)
    rw [this] at h2; cases h2
  · rintro ⟨h1, h2⟩
    obtain ⟨kv, hk, rfl⟩ := List.mem_map.1 h1
    refine List.mem_map.2 ⟨kv, List.mem_filter.2 ⟨hk, ?_⟩, rfl⟩
    cases hh : (hasF kv.1 bf).isSome with
    | false => rfl
    | true => exact absurd (hasF_isSome.1 hh) h2
theorem nodup_dlG {af bf : Fs} (h : (keysOf af).Nodup) : (keysOf (dlG af bf)).Nodup := by
  unfold dlG keysOf
  rw [List.map_map]
  have e : ((fun x : ByteArray × V => x.1) ∘ fun kv : ByteArray × V => (kv.1, nulV)) = fun x => x.1 := rfl
  rw [e]
  exact List.Nodup.sublist (List.Sublist.map _ List.filter_sublist) h
theorem dl_kind {E : V → V → Bool} {d : Nat} {a b u : V} (h : dl E d a b = some u) (hk : b.sc.kind ≠ 0) : u.sc.kind ≠ 0 := by
  cases d with
  | zero => simp [dl] at h
  | succ d =>
    by_cases h7 : b.sc.kind = 7
    · rw [dl_map h7] at h
      obtain ⟨l, _, rfl⟩ := Option.map_eq_some_iff.1 h
      simp [mapV, V.sc, zk]
    · rw [dl_else h7] at h; cases h; exact hk
/-- the key lists of a delta -/
theorem dl_list {E : V → V → Bool} {d : Nat} {a b : V} {l : Fs} (hna : (keysOf a.fields).Nodup) (hnb : (keysOf b.fields).Nodup) (h : b.fields.foldl (dlStep E (dl E d) a.fields) (some (dlG a.fields b.fields)) = some l) : (keysOf l).Nodup :=
  dlStep_keys _ _ _ h hnb (nodup_dlG hna) fun k hk hm => (keys_dlG.1 hm).2 hk
theorem dlStep_all2 {E : V → V → Bool} {f : V → V → Option V} {af : Fs} {p : ByteArray × V → Prop} : ∀ (l : Fs) (o : Fs) (r : Fs), (∀ kv ∈ o, p kv) → (∀ kv ∈ l, ∀ x, ((hasF kv.1 af).any fun old => E old kv.2) = false → f ((hasF kv.1 af).getD nulV) kv.2 = some x → kv.2.sc.kind ≠ 0 → p (kv.1, x)) → l.foldl (dlStep E f af) (some o) = some r → ∀ kv ∈ r, p kv
  | [], o, r, ho, _, h => by simp at h; subst h; exact ho
  | kv :: l, o, r, ho, hl, h => by
    rw [List.foldl_cons] at h
    cases h1 : dlStep E f af (some o) kv with
    | none => rw [h1, dlStep_none] at h; cases h
    | some o' =>
      rw [h1] at h
      refine dlStep_all2 l o' r ?_ (fun kv' hk => hl kv' (List.mem_cons_of_mem _ hk)) h
      unfold dlStep at h1
      simp only at h1
      split at h1
      · cases h1; exact ho
      · rename_i hany
        split at h1
        · cases h1
        · rename_i x hx
          split at h1
          · cases h1
          · rename_i hk0
            cases h1
            intro kv' hk
            rcases List.mem_append.1 hk with hk | hk
            · exact ho kv' hk
            · obtain rfl : kv' = (kv.1, x) := by simpa using hk
              exact hl kv (by simp) x (by simpa using hany) hx hk0
/-- what an entry of a delta is -/
def DlP (E : V → V → Bool) (d : Nat) (a b : V) (kv : ByteArray × V) : Prop := (kv.1 ∈ keysOf a.fields ∧ kv.1 ∉ keysOf b.fields ∧ kv.2 = nulV) ∨ ∃ y, (kv.1, y) ∈ b.fields ∧ ((hasF kv.1 a.fields).any fun old => E old y) = false ∧ dl E d ((hasF kv.1 a.fields).getD nulV) y = some kv.2 ∧ y.sc.kind ≠ 0
theorem dl_ents {E : V → V → Bool} {d : Nat} {a b : V} {l : Fs} (h : b.fields.foldl (dlStep E (dl E d) a.fields) (some (dlG a.fields b.fields)) = some l) : ∀ kv ∈ l, DlP E d a b kv := by
  refine dlStep_all2 _ _ _ (fun kv hk => .inl ?_) (fun kv hk x h1 h2 h3 => .inr ⟨kv.2, hk, h1, h2, h3⟩) h
  have h1 := keys_dlG.1 (show kv.1 ∈ keysOf (dlG a.fields b.fields) from List.mem_map.2 ⟨kv, hk, rfl⟩)
  unfold dlG at hk
  obtain ⟨kv', _, rfl⟩ := List.mem_map.1 hk
  exact ⟨h1.1, h1.2, rfl⟩
theorem mem_keys {l : Fs} {k : ByteArray} {x : V} (h : (k, x) ∈ l) : k ∈ keysOf l := List.mem_map.2 ⟨_, h, rfl⟩
theorem keys_mem {l : Fs} {k : ByteArray} (h : k ∈ keysOf l) : ∃ x, (k, x) ∈ l := by
  obtain ⟨⟨k', x⟩, hm, rfl⟩ := List.mem_map.1 h
  exact ⟨x, hm⟩
theorem old_okd {d : Nat} {a y : V} {k : ByteArray} (ha : okd (d + 1) a) (hy : okd d y) : okd d ((hasF k a.fields).getD nulV) := by
  cases hh : hasF k a.fields with
  | none =>
    cases d with
    | zero => exact hy.elim
    | succ d => exact okd_mono 1 _ _ okd_nul (by omega)
  | some v => exact ha.2.2.2 _ (hasF_mem hh)
theorem dl_back {E : V → V → Bool} (hE : ∀ x y, E x y = true ↔ canon x = canon y) : ∀ (d : Nat) (a b u : V), okd d a → okd d b → dl E d a b = some u → canon (ovl d a u) = canon b
  | 0, _, _, _, ha, _, _ => ha.elim
  | d + 1, a, b, u, ha, hb, h => by
    by_cases h7 : b.sc.kind = 7
    · rw [dl_map h7] at h
      obtain ⟨l, hl, rfl⟩ := Option.map_eq_some_iff.1 h
      have hnl := dl_list ha.2.1 hb.2.1 hl
      have ha0 : (if a.sc.kind = 7 then a.fields else []) = a.fields := by
        split
        · rfl
        · rename_i h; exact (List.eq_nil_of_length_eq_zero (ha.1.fields h)).symm
      rw [ovl_map (v := mapV l) rfl, ha0, own7 hb.1 h7]
      have hcov := dlStep_cov _ _ _ hl
      have hent := dl_ents hl
      refine canon_map_eq (fold_nodup _ _ ha.2.1) hb.2.1 fun k => ?_
      show (hasF k (l.foldl (stepF d) a.fields)).map canon = (hasF k b.fields).map canon
      by_cases hkb : k ∈ keysOf b.fields
      · obtain ⟨y, hy⟩ := keys_mem hkb
        have hby := hasF_of_mem hb.2.1 hy
        cases hany : (hasF k a.fields).any fun old => E old y with
        | true =>
          have hkl : k ∉ keysOf l := fun hm => by
            obtain ⟨x, hx⟩ := keys_mem hm
            rcases hent _ hx with h1 | ⟨y', h1, h2, _⟩
            · exact h1.2.1 hkb
            · have := hasF_of_mem hb.2.1 h1
              rw [hby] at this
              obtain rfl := Option.some.inj this
              rw [hany] at h2; cases h2
          rw [fold_ne _ _ hkl, hby]
          cases hh : hasF k a.fields with
          | none => rw [hh] at hany; cases hany
          | some old =>
            rw [hh] at hany
            simp only [Option.any_some] at hany
            simp only [Option.map_some]
            rw [(hE _ _).1 hany]
        | false =>
          obtain ⟨x, hx, hk0, hm⟩ := hcov.2 (k, y) hy hany
          rw [fold_has l a.fields (k, x) hnl hm, if_neg (dl_kind hx hk0), hby]
          simp only [Option.map_some]
          have hyo := hb.2.2.2 _ hy
          rw [dl_back hE d _ y x (old_okd ha hyo) hyo hx]
      · have hbn : hasF k b.fields = none := hasF_no fun x hx => hkb (mem_keys hx)
        rw [hbn]
        by_cases hka : k ∈ keysOf a.fields
        · obtain ⟨x, hx⟩ := keys_mem (keys_dlG.2 ⟨hka, hkb⟩)
          have hxl := hcov.1 _ hx
          obtain rfl : x = nulV := by
            unfold dlG at hx
            obtain ⟨kv', _, e⟩ := List.mem_map.1 hx
            simp only [Prod.mk.injEq] at e
            exact e.2.symm
          rw [fold_has l a.fields (k, nulV) hnl hxl, if_pos (by rfl)]
        · have hkl : k ∉ keysOf l := fun hm => by
            obtain ⟨x, hx⟩ := keys_mem hm
            rcases hent _ hx with h1 | ⟨y', h1, _⟩
            · exact hka h1.1
            · exact hkb (mem_keys h1)
          rw [fold_ne _ _ hkl, hasF_no fun x hx => hka (mem_keys hx)]
    · rw [dl_else h7] at h
      cases h
      rw [ovl_else h7]
theorem dl_okd {E : V → V → Bool} : ∀ (d : Nat) (a b u : V), okd d a → okd d b → dl E d a b = some u → okd d u
  | 0, _, _, _, ha, _, _ => ha.elim
  | d + 1, a, b, u, ha, hb, h => by
    by_cases h7 : b.sc.kind = 7
    · rw [dl_map h7] at h
      obtain ⟨l, hl, rfl⟩ := Option.map_eq_some_iff.1 h
      refine okd_mapV (dl_list ha.2.1 hb.2.1 hl) fun kv hk => ?_
      rcases dl_ents hl kv hk with ⟨h1, _, h3⟩ | ⟨y, h1, _, h3, _⟩
      · rw [h3]
        obtain ⟨x, hx⟩ := keys_mem h1
        have := ha.2.2.2 _ hx
        cases d with
        | zero => exact this.elim
        | succ d => exact okd_mono 1 _ _ okd_nul (by omega)
      · have hyo := hb.2.2.2 _ h1
        exact dl_okd d _ y _ (old_okd ha hyo) hyo h3
    · rw [dl_else h7] at h; cases h; exact hb
theorem dl_nw {E : V → V → Bool} {m m' : Nat} : ∀ (d : Nat) (a b u : V), dl E d a b = some u → Nw m a → Nw m' b → Nw (m + m') u
  | 0, _, _, _, h, _, _ => by simp [dl] at h
  | d + 1, a, b, u, h, hna, hnb => by
    by_cases h7 : b.sc.kind = 7
    · rw [dl_map h7] at h
      obtain ⟨l, hl, rfl⟩ := Option.map_eq_some_iff.1 h
      have h1 := dlStep_length _ _ _ hl
      have h2 := dlG_length a.fields b.fields
      have h3 := (hna 1).1
      have h4 := (hnb 1).1
      intro k
      cases k with
      | zero => trivial
      | succ k =>
        refine ⟨by show l.length ≤ _; omega, fun kv hk => ?_⟩
        rcases dl_ents hl kv hk with ⟨_, _, h5⟩ | ⟨y, h5, _, h6, _⟩
        · rw [h5]; exact nw_nul _ k
        · refine dl_nw d _ y _ h6 ?_ (Nw.field hnb h5) k
          cases hh : hasF kv.1 a.fields with
          | none => exact nw_nul m
          | some v => exact Nw.field hna (hasF_mem hh)
    · rw [dl_else h7] at h
      cases h
      exact fun k => nw_mono (by omega) k _ (hnb k)
/-- a map in it, not within a list, has a null -/
def nl : Nat → V → Prop
  | 0, _ => False
  | d + 1, v => ∃ kv ∈ v.fields, kv.2.sc.kind = 0 ∨ nl d kv.2
theorem dl_nl {E : V → V → Bool} : ∀ (d : Nat) (a b : V), okd d b → dl E d a b = none → nl d b
  | 0, _, _, h, _ => h.elim
  | d + 1, a, b, hb, h => by
    by_cases h7 : b.sc.kind = 7
    · rw [dl_map h7, Option.map_eq_none_iff] at h
      have key : ∀ (l o : Fs), l.foldl (dlStep E (dl E d) a.fields) (some o) = none → ∃ kv ∈ l, kv.2.sc.kind = 0 ∨ dl E d ((hasF kv.1 a.fields).getD nulV) kv.2 = none := by
        intro l
        induction l with
        | nil => intro o h; simp at h
        | cons kv l ih =>
          intro o h
          rw [List.foldl_cons] at h
          cases h1 : dlStep E (dl E d) a.fields (some o) kv with
          | some o' =>
            rw [h1] at h
            obtain ⟨kv', hk, h2⟩ := ih o' h
            exact ⟨kv', List.mem_cons_of_mem _ hk, h2⟩
          | none =>
            refine ⟨kv, by simp, ?_⟩
            unfold dlStep at h1
            simp only at h1
            split at h1
            · cases h1
            · split at h1
              · rename_i h2; exact .inr h2
              · split at h1
                · rename_i h2; exact .inl h2
                · cases h1
      obtain ⟨kv, hk, h2⟩ := key _ _ h
      refine ⟨kv, hk, h2.imp id fun h3 => dl_nl d _ _ (hb.2.2.2 kv hk) h3⟩
    · rw [dl_else h7] at h; cases h
end Go.Dk
