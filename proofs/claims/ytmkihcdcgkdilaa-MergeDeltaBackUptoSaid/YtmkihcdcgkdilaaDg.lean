/-
  Contract: the law MergeDeltaBack.
-/
import Derived.Test.YtmkihcdcgkdilaaDe
import Derived.Test.YtmkihcdcgkdilaaDf
import Derived.Test.YtmkihcdcgkdilaaCg
namespace Go.Proofs.Ytmkihcdcgkdilaa
open Go Go.Dk Go.RowKit
set_option linter.unusedSimpArgs false
set_option linter.unusedVariables false
attribute [local irreducible] Go.wpList Go.Code.wp Go.bodyPost Go.wpStill Go.wpQuiet
set_option maxRecDepth 10000 in
theorem c37 : ∀ (d : Nat) (v : V) (r : List Value) (w0 : World), deep d v → Fine v → Val w0 v r → Fc Try.prog 37 [.agg r.toArray] w0 (IsB fun b => b = true ↔ nl d v) := by
  intro d
  induction d with
  | zero => intro v r w0 hd; exact hd.elim
  | succ d ih =>
  intro v r w0 hd hf hv
  have hself := hf.self
  obtain ⟨bs, ls, fs, rfl, _, _, hfs⟩ := hv.open
  obtain ⟨fa, fc, fb, fo, rfl, hfa, hfget⟩ := hfs.open
  refine ret_enter Try.func37 rfl Try.ntmps37 rfl ?_
  have cx := Ctx.start w0
  refine wp_seq ?_
  refine wp_region_lit ?_
  refine s_box cx rfl rfl rfl rfl rfl ?_; intro b1 w cx hb1 hw1
  refine s_val rfl rfl (v_assign rfl rfl) ?_
  refine wpList_nil ?_
  refine wp_seq ?_
  refine wp_seq ?_
  refine wp_region_lit ?_
  refine s_val rfl rfl (v_assign rfl rfl) ?_
  refine wpList_nil ?_
  refine wp_block ?_
  refine w_loop (fun k f w1 => ∃ i : Nat, k + i = v.fields.length ∧ f 1 = .pointer (some ⟨b1, 0, none⟩) ∧ f 3 = .int .i64 i ∧ Ctx w0 w1 [(b1, .cells (vrow v.sc bs ls (.slice fa v.fields.length fc)).toArray 33)] ∧ ∀ (j : Nat) (kv : ByteArray × V), j < i → v.fields[j]? = some kv → kv.2.sc.kind ≠ 0 ∧ ¬ nl d kv.2) (v.fields.length) ?_ ?_
  · skip
    exact ⟨0, by omega, rfl, rfl, cx, fun j kv hj => by omega⟩
  intro gk2 f w hJ
  obtain ⟨i, hki, hs1, hs3, cx, hall⟩ := hJ
  refine wp_seq ?_
  refine wp_seq ?_
  refine wp_region_lit ?_
  refine s_val rfl rfl (v_move rfl hs3) ?_
  refine s_val rfl rfl (v_fa fa33_7 rfl hs1) ?_
  refine s_val rfl rfl (v_load1 rfl rfl Try.underlying31 rfl (cx.cell 0 rfl rfl)) ?_
  refine s_val rfl rfl (v_lenSlice rfl rfl Try.underlying31) ?_
  refine s_val rfl rfl (v_cmp rfl rfl rfl rfl) ?_
  refine wpList_nil ?_
  refine c_split rfl (fun hc8 => ?_) (fun hc8 => ?_)
  · skip
    try simp only [Bool.and_eq_true, Bool.or_eq_true, Bool.and_eq_false_iff, Bool.or_eq_false_iff, Bool.not_eq_true', Bool.not_eq_false', decide_eq_true_eq, decide_eq_false_iff_not, beq_iff_eq, beq_eq_false_iff_ne, bne_iff_ne, bne_eq_false_iff_eq, ne_eq, Classical.not_not] at hc8
    obtain rfl := hfa (by omega)
    obtain ⟨r, hr, hrv⟩ := hfget i v.fields[i] (List.getElem?_eq_getElem (by omega))
    obtain ⟨ebs, els, efs, rfl, _⟩ := hrv.open
    refine wp_skip ?_
    refine wp_seq ?_
    refine wp_block ?_
    refine wp_seq ?_
    refine wp_region_lit ?_
    refine s_val rfl rfl (v_fa fa33_7 rfl hs1) ?_
    refine s_val rfl rfl (v_load1 rfl rfl Try.underlying31 rfl (cx.cell 0 rfl rfl)) ?_
    refine s_val rfl rfl (v_move rfl hs3) ?_
    refine s_val rfl rfl (v_ia Try.underlying31 sz77 rfl rfl rfl (by omega) (by omega)) ?_
    refine s_val rfl rfl (v_fa fa77_1 rfl rfl) ?_
    refine s_val rfl rfl (v_fa fa33_0 rfl rfl) ?_
    refine s_val rfl rfl (v_load1 rfl rfl Try.underlying3 rfl ((hr.up cx.ext).cell 1 rfl)) ?_
    refine s_val rfl rfl (v_cmp rfl rfl rfl rfl) ?_
    refine s_val rfl rfl (v_move rfl rfl) ?_
    refine s_gval rfl rfl rfl (by first | exact w_ff rfl | exact w_gf rfl) (fun hc => v_fa fa33_7 rfl hs1) ?_
    refine s_gval rfl rfl rfl (by first | exact w_ff rfl | exact w_gf rfl) (fun hc => v_load1 rfl (by first | exact gve hc rfl | exact gve (and_l hc) rfl | exact gve (and_l (and_l hc)) rfl | rfl) Try.underlying31 rfl (cx.cell 0 rfl rfl)) ?_
    refine s_gval rfl rfl rfl (by first | exact w_ff rfl | exact w_gf rfl) (fun hc => v_move rfl hs3) ?_
    refine s_gval rfl rfl rfl (by first | exact w_ff rfl | exact w_gf rfl) (fun hc => v_ia Try.underlying31 sz77 rfl (gve hc rfl) (gve hc rfl) (by omega) (by omega)) ?_
    refine s_gval rfl rfl rfl (by first | exact w_ff rfl | exact w_gf rfl) (fun hc => v_fa fa77_1 rfl (by first | exact gve hc rfl | exact gve (and_l hc) rfl | exact gve (and_l (and_l hc)) rfl | rfl)) ?_
    refine s_gval rfl rfl rfl (by first | exact w_ff rfl | exact w_gf rfl) (fun hc => v_load rfl (gve hc rfl) Try.underlying33 rfl sz33 ((hr.up cx.ext).tail) rfl) ?_
    refine s_gfnB cx rfl rfl rfl (by first | exact w_ff rfl | exact w_gf rfl) (fun hc => ih _ _ _ (hd.2 _ (List.getElem_mem _)) (hf.field (List.getElem_mem _)).2 (hrv.up cx.ext)) Try.func37 rfl rfl rfl (fun hc => (cons_eq (gve hc rfl) rfl)) ?_; intro q26 w cx hw26 hp26
    refine s_val rfl rfl (v_or rfl rfl rfl rfl) ?_
    refine wpList_nil ?_
    refine c_split rfl (fun hc27 => ?_) (fun hc27 => ?_)
    · skip
      try simp only [Bool.and_eq_true, Bool.or_eq_true, Bool.and_eq_false_iff, Bool.or_eq_false_iff, Bool.not_eq_true', Bool.not_eq_false', decide_eq_true_eq, decide_eq_false_iff_not, beq_iff_eq, beq_eq_false_iff_ne, bne_iff_ne, bne_eq_false_iff_eq, ne_eq, Classical.not_not] at hc27
      refine wp_seq ?_
      refine wp_region_lit ?_
      refine s_val rfl rfl (v_assign rfl rfl) ?_
      refine wpList_nil ?_
      refine wp_ret ?_
      refine ret_tmp Try.results37 rfl ?_
      refine ⟨cx.ext, _, rfl, ?_⟩
      constructor
      · intro _
        refine ⟨v.fields[i], List.getElem_mem _, ?_⟩
        rcases hc27 with h | h
        · exact .inl (by simpa using h)
        · by_cases hk : v.fields[i].2.sc.kind = 0
          · exact .inl hk
          · exact .inr ((hp26 (by simp [hk])).1 h)
      · intro _; rfl
    · skip
      try simp only [Bool.and_eq_true, Bool.or_eq_true, Bool.and_eq_false_iff, Bool.or_eq_false_iff, Bool.not_eq_true', Bool.not_eq_false', decide_eq_true_eq, decide_eq_false_iff_not, beq_iff_eq, beq_eq_false_iff_ne, bne_iff_ne, bne_eq_false_iff_eq, ne_eq, Classical.not_not] at hc27
      refine wp_skip ?_
      refine wp_region_lit ?_
      refine s_val rfl rfl (v_move rfl hs3) ?_
      refine s_val rfl rfl (v_add rfl rfl rfl (by omega) (by omega)) ?_
      refine s_val rfl rfl (v_assign rfl rfl) ?_
      refine wpList_nil ?_
      refine ⟨gk2 - 1, _, by omega, rfl, i + 1, by omega, hs1, rfl, cx, fun j kv hj hkv => ?_⟩
      rcases Nat.lt_or_ge j i with h | h
      · exact hall j kv h hkv
      · obtain rfl : j = i := by omega
        rw [List.getElem?_eq_getElem (by omega)] at hkv
        obtain rfl := Option.some.inj hkv
        have h0 : v.fields[j].2.sc.kind ≠ 0 := by simpa using hc27.1
        refine ⟨h0, fun hn => ?_⟩
        have := (hp26 (by simp [h0])).2 hn
        rw [hc27.2] at this; cases this
  · skip
    try simp only [Bool.and_eq_true, Bool.or_eq_true, Bool.and_eq_false_iff, Bool.or_eq_false_iff, Bool.not_eq_true', Bool.not_eq_false', decide_eq_true_eq, decide_eq_false_iff_not, beq_iff_eq, beq_eq_false_iff_ne, bne_iff_ne, bne_eq_false_iff_eq, ne_eq, Classical.not_not] at hc8
    refine wp_exit ?_
    refine wp_seq ?_
    refine wp_region_lit ?_
    refine s_val rfl rfl (v_assign rfl rfl) ?_
    refine wpList_nil ?_
    refine wp_ret ?_
    refine ret_tmp Try.results37 rfl ?_
    refine ⟨cx.ext, _, rfl, ?_⟩
    constructor
    · intro h; cases h
    · rintro ⟨kv, hk, h⟩
      obtain ⟨j, hj⟩ := List.getElem?_of_mem hk
      have h2 := hall j kv (by have := (List.getElem?_eq_some_iff.1 hj).1; omega) hj
      rcases h with h | h
      · exact absurd h h2.1
      · exact absurd h h2.2

set_option maxRecDepth 10000 in
theorem c12 (av bv : V) (ra rb : List Value) (w0 : World) (ha : Val w0 av ra) (hb : Val w0 bv rb) (hfa : Fine av) (hfb : Fine bv) (hgood : ∀ v, okd 48 v → deep 60 v → tsz 60 v ≤ 100 → Fine v → Gd 48 100 v) : Fc Try.prog 12 [.agg ra.toArray, .agg rb.toArray] w0 (IsB fun b => b = true) := by
  obtain ⟨E, hE⟩ := classic_eq
  refine ret_enter Try.func12 rfl Try.ntmps12 rfl ?_
  have cx := Ctx.start w0
  refine wp_seq ?_
  refine wp_region_lit ?_
  refine s_box cx rfl rfl rfl rfl rfl ?_; intro b2 w cx hb2 hw2
  refine s_box cx rfl rfl rfl rfl rfl ?_; intro b3 w cx hb3 hw3
  refine s_val rfl rfl (v_assign rfl rfl) ?_
  refine wpList_nil ?_
  refine wp_seq ?_
  refine wp_seq ?_
  refine wp_region_lit ?_
  refine s_val rfl rfl (v_load rfl rfl Try.underlying33 rfl sz33 (cx.row 1 rfl) ha.len) ?_
  refine s_fnB cx (c20 _ _ _ (ha.up cx.ext) hfa) Try.func20 rfl rfl rfl rfl rfl rfl ?_; intro q8 w cx hw8 hp8
  refine s_val rfl rfl (v_not rfl rfl) ?_
  refine s_val rfl rfl (v_move rfl rfl) ?_
  refine s_gval rfl rfl rfl (by first | exact w_ff rfl | exact w_gf rfl) (fun hc => v_load rfl rfl Try.underlying33 rfl sz33 (cx.row 0 rfl) hb.len) ?_
  refine s_gfnB cx rfl rfl rfl (by first | exact w_ff rfl | exact w_gf rfl) (fun hc => c20 _ _ _ (hb.up cx.ext) hfb) Try.func20 rfl rfl rfl (fun hc => (cons_eq (gve hc rfl) rfl)) ?_; intro q12 w cx hw12 hp12
  refine s_gval rfl rfl rfl (by first | exact w_ff rfl | exact w_gf rfl) (fun hc => v_not rfl (by first | exact gve hc rfl | exact gve (and_l hc) rfl | exact gve (and_l (and_l hc)) rfl | rfl)) ?_
  refine s_val rfl rfl (v_or rfl rfl rfl rfl) ?_
  refine wpList_nil ?_
  refine c_split rfl (fun hc14 => ?_) (fun hc14 => ?_)
  · skip
    try simp only [Bool.and_eq_true, Bool.or_eq_true, Bool.and_eq_false_iff, Bool.or_eq_false_iff, Bool.not_eq_true', Bool.not_eq_false', decide_eq_true_eq, decide_eq_false_iff_not, beq_iff_eq, beq_eq_false_iff_ne, bne_iff_ne, bne_eq_false_iff_eq, ne_eq, Classical.not_not] at hc14
    refine wp_seq ?_
    refine wp_region_lit ?_
    refine s_val rfl rfl (v_assign rfl rfl) ?_
    refine wpList_nil ?_
    refine wp_ret ?_
    refine ret_tmp Try.results12 rfl ?_
    exact ⟨cx.ext, _, rfl, rfl⟩
  · skip
    try simp only [Bool.and_eq_true, Bool.or_eq_true, Bool.and_eq_false_iff, Bool.or_eq_false_iff, Bool.not_eq_true', Bool.not_eq_false', decide_eq_true_eq, decide_eq_false_iff_not, beq_iff_eq, beq_eq_false_iff_ne, bne_iff_ne, bne_eq_false_iff_eq, ne_eq, Classical.not_not] at hc14
    obtain ⟨h71, h72⟩ := hc14
    subst h71
    have h71' := hp8 rfl
    have hga := hgood av h71'.1 h71'.2.1 h71'.2.2 hfa
    have h72' := hp12 rfl (by simpa using h72)
    have hgb := hgood bv h72'.1 h72'.2.1 h72'.2.2 hfb
    refine wp_skip ?_
    refine wp_seq ?_
    refine wp_region_lit ?_
    refine s_val rfl rfl (v_load rfl rfl Try.underlying33 rfl sz33 (cx.row 1 rfl) ha.len) ?_
    refine s_val rfl rfl (v_load rfl rfl Try.underlying33 rfl sz33 (cx.row 0 rfl) hb.len) ?_
    refine s_fn cx (c32 E hE 48 av bv _ _ _ (by omega) hga.ok hgb.ok hfa hfb (ha.up cx.ext) (hb.up cx.ext)) Try.func32 rfl rfl rfl rfl rfl rfl ?_; intro q18 w cx hw18 hp18
    obtain ⟨l18, rfl, hm18⟩ := hp18
    have hu := RepV.mono (A' := fun b => b < w.heap.size) (fun b hb => hb.2) (fun _ _ => rfl) _ _ hm18
    have hK : Kp (fun b => b < w.heap.size) w w := Kp.refl (fun _ h => h)
    refine s_val rfl rfl (v_move rfl rfl) ?_
    refine s_val rfl rfl (v_extract rfl rfl rfl) ?_
    refine s_val rfl rfl (v_extract rfl rfl rfl) ?_
    refine s_alloc cx z33 rfl rfl rfl ?_; intro b5 w cx hb5 hw5
    refine s_storeAllG cx 0 rfl rfl rfl rfl rfl rfl (by rw [hm18.len]; exact sz33) (by rw [hm18.len]; rfl) hm18.one ?_; intro w cx hg5
    replace hK := (hK.below hw5).later hg5 (Nat.le_of_eq hb5)
    replace hu : Val w _ l18 := RepV.mono (fun b hb => Nat.lt_of_lt_of_le hb hK.sz) hK.kp _ _ hu
    refine s_val rfl rfl (v_assign rfl rfl) ?_
    refine wpList_nil ?_
    refine wp_seq ?_
    refine wp_seq ?_
    refine wp_region_lit ?_
    refine s_val rfl rfl (v_move rfl rfl) ?_
    refine s_val rfl rfl (v_not rfl rfl) ?_
    refine wpList_nil ?_
    refine c_split rfl (fun hc22 => ?_) (fun hc22 => ?_)
    · skip
      skip
      refine wp_seq ?_
      refine wp_region_lit ?_
      refine s_val rfl rfl (v_load rfl rfl Try.underlying33 rfl sz33 (cx.row 1 rfl) hb.len) ?_
      refine s_fnB cx (c37 48 bv _ _ (deep_of_okd _ _ hgb.ok) hfb (hb.up cx.ext)) Try.func37 rfl rfl rfl rfl rfl rfl ?_; intro q24 w cx hw24 hp24
      refine s_val rfl rfl (v_assign rfl rfl) ?_
      refine wpList_nil ?_
      refine wp_ret ?_
      refine ret_tmp Try.results12 rfl ?_
      refine ⟨cx.ext, _, rfl, hp24.2 (dl_nl (E := E) 48 av bv hgb.ok ?_)⟩
      cases hd : dl E 48 av bv with
      | none => rfl
      | some u => rw [hd] at hc22; cases hc22
    · skip
      skip
      obtain ⟨u, hdu⟩ : ∃ u, dl E 48 av bv = some u := by
        cases hd : dl E 48 av bv with
        | none => rw [hd] at hc22; cases hc22
        | some u => exact ⟨u, rfl⟩
      rw [hdu] at hu
      replace hu : Val w u l18 := hu
      have hgu : Gd 48 200 u := ⟨dl_okd 48 av bv u hga.ok hgb.ok hdu, dl_fine (m := 100) (m' := 100) (by omega) 48 av bv u hdu hfa hfb hga.nw hgb.nw, dl_nw (m := 100) (m' := 100) 48 av bv u hdu hga.nw hgb.nw⟩
      have hgo := (gd_ovl 48 48 100 200 av u hga hgu (by omega) (by omega)).1
      refine wp_skip ?_
      refine wp_seq ?_
      refine w_ord cx (cx.pick3 2 0 1 rfl rfl rfl rfl) mixed [(0, 25), (1, 26), (3, 28)] #[true, true, false, true, false, false] (by kernel_rfl) (by kernel_rfl) (by kernel_rfl) (by kernel_rfl) ?_
      refine pu_one rfl (wnt_none rfl) (fun w cx => v_load rfl rfl Try.underlying33 rfl sz33 (cx.row 0 rfl) ha.len) ?_
      refine pu_one rfl (wnt_none rfl) (fun w cx => v_load rfl rfl Try.underlying33 rfl sz33 (cx.row 1 rfl) hm18.len) ?_
      refine pu_one rfl (wnt_none rfl) (fun w cx => v_load rfl rfl Try.underlying33 rfl sz33 (cx.row 2 rfl) hb.len) ?_
      refine pu_nil ?_; intro w cx hwD6
      replace hu := hu.up hwD6
      refine x_one (i := 2) (by kernel_rfl) rfl ?_
      refine s_fn cx (c21 48 100 200 av u _ _ _ hga hgu (by omega) (by omega) (ha.up cx.ext) hu) Try.func21 rfl rfl rfl rfl rfl rfl ?_; intro q27 w cx hw27 hp27
      obtain ⟨r27, rfl, hm27⟩ := hp27.rep
      have hv27 : Val w (ovl 48 av u) r27 := RepV.mono (fun b hb => hb.2) (fun _ _ => rfl) _ _ hm27
      refine x_next ⟨.inl (cx.pick3 2 0 1 rfl rfl rfl rfl), ?_⟩
      refine x_one (i := 4) (by kernel_rfl) rfl ?_
      refine s_fnB cx (c27 _ _ _ _ _ hgo.fine hfb hv27 (hb.up cx.ext)) Try.func27 rfl rfl rfl rfl rfl rfl ?_; intro q29 w cx hw29 hp29
      refine x_next ⟨.inr (by kernel_rfl), ?_⟩
      refine x_one (i := 5) (by kernel_rfl) rfl ?_
      refine s_val rfl rfl (v_assign rfl rfl) ?_
      refine x_next ⟨.inr (by kernel_rfl), ?_⟩
      refine x_done (by kernel_rfl) ?_
      refine wp_ret ?_
      refine ret_tmp Try.results12 rfl ?_
      exact ⟨cx.ext, _, rfl, hp29.2 (dl_back hE 48 av bv u hga.ok hgb.ok hdu)⟩
end Go.Proofs.Ytmkihcdcgkdilaa
