/-
  Contract: Same of the reference, for any two values.
-/
import Derived.Test.YtmkihcdcgkdilaaSj
namespace Go.Proofs.Ytmkihcdcgkdilaa
open Go Go.Dk Go.RowKit
set_option linter.unusedSimpArgs false
set_option linter.unusedVariables false
attribute [local irreducible] Go.wpList Go.Code.wp Go.bodyPost Go.wpStill Go.wpQuiet
set_option maxRecDepth 10000 in
set_option maxHeartbeats 3200000 in
theorem c22g : ∀ (v u : V) (r1 r2 : List Value) (w0 : World), Val w0 v r1 → Val w0 u r2 → Fine v → Fine u → Fc Try.prog 22 [.agg r1.toArray, .agg r2.toArray] w0 (IsB fun b => b = true ↔ v = u) := by
  intro v
  induction v using V.ind2 with
  | h v ihl ihf =>
  intro u r1 r2 w0 h1 h2 hfin hfin2
  have hself := hfin.self
  have hself2 := hfin2.self
  obtain ⟨bs1, ls1, fs1, rfl, hB1, hL1, hF1⟩ := h1.open
  obtain ⟨bs2, ls2, fs2, rfl, hB2, hL2, hF2⟩ := h2.open
  obtain ⟨la1, lc1, lb1, lo1, rfl, ha1, hl1⟩ := hL1.open
  obtain ⟨la2, lc2, lb2, lo2, rfl, ha2, hl2⟩ := hL2.open
  obtain ⟨fa1, fc1, fb1, fo1, rfl, hg1, hf1⟩ := hF1.open
  obtain ⟨fa2, fc2, fb2, fo2, rfl, hg2, hf2⟩ := hF2.open
  refine ret_enter Try.func22 rfl Try.ntmps22 rfl ?_
  have cx := Ctx.start w0
  refine wp_seq ?_
  refine wp_region_lit ?_
  refine s_box cx rfl rfl rfl rfl rfl ?_; intro b2 w cx hb2 hw2
  refine s_box cx rfl rfl rfl rfl rfl ?_; intro b3 w cx hb3 hw3
  refine s_val rfl rfl (v_assign rfl rfl) ?_
  refine wpList_nil ?_
  refine wp_seq ?_
  refine wp_seq ?_
  refine wp_region_lit ?_
  refine s_val rfl rfl (v_fa fa33_0 rfl rfl) ?_
  refine s_val rfl rfl (v_load1 rfl rfl Try.underlying3 rfl (cx.cell 1 rfl rfl)) ?_
  refine s_val rfl rfl (v_fa fa33_0 rfl rfl) ?_
  refine s_val rfl rfl (v_load1 rfl rfl Try.underlying3 rfl (cx.cell 0 rfl rfl)) ?_
  refine s_val rfl rfl (v_cmp rfl rfl rfl rfl) ?_
  refine s_val rfl rfl (v_move rfl rfl) ?_
  refine s_gval rfl rfl rfl (by first | exact w_ff rfl | exact w_gf rfl) (fun hc => v_fa fa33_1 rfl (by first | exact gve hc rfl | exact gve (and_l hc) rfl | exact gve (and_l (and_l hc)) rfl | rfl)) ?_
  refine s_gval rfl rfl rfl (by first | exact w_ff rfl | exact w_gf rfl) (fun hc => v_load1 rfl (by first | exact gve hc rfl | exact gve (and_l hc) rfl | exact gve (and_l (and_l hc)) rfl | rfl) Try.underlying4 rfl (cx.cell 1 rfl rfl)) ?_
  refine s_gval rfl rfl rfl (by first | exact w_ff rfl | exact w_gf rfl) (fun hc => v_fa fa33_1 rfl (by first | exact gve hc rfl | exact gve (and_l hc) rfl | exact gve (and_l (and_l hc)) rfl | rfl)) ?_
  refine s_gval rfl rfl rfl (by first | exact w_ff rfl | exact w_gf rfl) (fun hc => v_load1 rfl (by first | exact gve hc rfl | exact gve (and_l hc) rfl | exact gve (and_l (and_l hc)) rfl | rfl) Try.underlying4 rfl (cx.cell 0 rfl rfl)) ?_
  refine s_gval rfl rfl rfl (by first | exact w_ff rfl | exact w_gf rfl) (fun hc => v_boolNe rfl (by first | exact gve hc rfl | exact gve (and_l hc) rfl | exact gve (and_l (and_l hc)) rfl | rfl) (by first | exact gve hc rfl | exact gve (and_l hc) rfl | exact gve (and_l (and_l hc)) rfl | rfl) Try.underlying4) ?_
  refine s_val rfl rfl (v_or rfl rfl rfl rfl) ?_
  refine s_val rfl rfl (v_move rfl rfl) ?_
  refine s_gval rfl rfl rfl (by first | exact w_ff rfl | exact w_gf rfl) (fun hc => v_fa fa33_2 rfl (by first | exact gve hc rfl | exact gve (and_l hc) rfl | exact gve (and_l (and_l hc)) rfl | rfl)) ?_
  refine s_gval rfl rfl rfl (by first | exact w_ff rfl | exact w_gf rfl) (fun hc => v_load rfl (by first | exact gve hc rfl | exact gve (and_l hc) rfl | exact gve (and_l (and_l hc)) rfl | rfl) Try.underlying26 rfl sz26 ((cx.row 1 rfl).r3 2 rfl rfl rfl) rfl) ?_
  refine s_gval rfl rfl rfl (by first | exact w_ff rfl | exact w_gf rfl) (fun hc => v_fa fa33_2 rfl (by first | exact gve hc rfl | exact gve (and_l hc) rfl | exact gve (and_l (and_l hc)) rfl | rfl)) ?_
  refine s_gval rfl rfl rfl (by first | exact w_ff rfl | exact w_gf rfl) (fun hc => v_load rfl (by first | exact gve hc rfl | exact gve (and_l hc) rfl | exact gve (and_l (and_l hc)) rfl | rfl) Try.underlying26 rfl sz26 ((cx.row 0 rfl).r3 2 rfl rfl rfl) rfl) ?_
  refine s_gval rfl rfl rfl (by first | exact w_ff rfl | exact w_gf rfl) (fun hc => v_agg eqg26 (ne26 _ _ _ _ _ _) rfl (by first | exact gve hc rfl | exact gve (and_l hc) rfl | exact gve (and_l (and_l hc)) rfl | rfl) (by first | exact gve hc rfl | exact gve (and_l hc) rfl | exact gve (and_l (and_l hc)) rfl | rfl)) ?_
  refine s_val rfl rfl (v_or rfl rfl rfl rfl) ?_
  refine s_val rfl rfl (v_move rfl rfl) ?_
  refine s_gval rfl rfl rfl (by first | exact w_ff rfl | exact w_gf rfl) (fun hc => v_fa fa33_3 rfl (by first | exact gve hc rfl | exact gve (and_l hc) rfl | exact gve (and_l (and_l hc)) rfl | rfl)) ?_
  refine s_gval rfl rfl rfl (by first | exact w_ff rfl | exact w_gf rfl) (fun hc => v_load rfl (by first | exact gve hc rfl | exact gve (and_l hc) rfl | exact gve (and_l (and_l hc)) rfl | rfl) Try.underlying28 rfl sz28 ((cx.row 1 rfl).r4 5 rfl rfl rfl rfl) rfl) ?_
  refine s_gval rfl rfl rfl (by first | exact w_ff rfl | exact w_gf rfl) (fun hc => v_fa fa33_3 rfl (by first | exact gve hc rfl | exact gve (and_l hc) rfl | exact gve (and_l (and_l hc)) rfl | rfl)) ?_
  refine s_gval rfl rfl rfl (by first | exact w_ff rfl | exact w_gf rfl) (fun hc => v_load rfl (by first | exact gve hc rfl | exact gve (and_l hc) rfl | exact gve (and_l (and_l hc)) rfl | rfl) Try.underlying28 rfl sz28 ((cx.row 0 rfl).r4 5 rfl rfl rfl rfl) rfl) ?_
  refine s_gval rfl rfl rfl (by first | exact w_ff rfl | exact w_gf rfl) (fun hc => v_agg eqg28 (ne28 _ _ _ _ _ _ _ _) rfl (by first | exact gve hc rfl | exact gve (and_l hc) rfl | exact gve (and_l (and_l hc)) rfl | rfl) (by first | exact gve hc rfl | exact gve (and_l hc) rfl | exact gve (and_l (and_l hc)) rfl | rfl)) ?_
  refine s_val rfl rfl (v_or rfl rfl rfl rfl) ?_
  refine s_val rfl rfl (v_move rfl rfl) ?_
  refine s_gval rfl rfl rfl (by first | exact w_ff rfl | exact w_gf rfl) (fun hc => v_fa fa33_4 rfl (by first | exact gve hc rfl | exact gve (and_l hc) rfl | exact gve (and_l (and_l hc)) rfl | rfl)) ?_
  refine s_gval rfl rfl rfl (by first | exact w_ff rfl | exact w_gf rfl) (fun hc => v_load1 rfl (by first | exact gve hc rfl | exact gve (and_l hc) rfl | exact gve (and_l (and_l hc)) rfl | rfl) Try.underlying9 rfl (cx.cell 1 rfl rfl)) ?_
  refine s_gval rfl rfl rfl (by first | exact w_ff rfl | exact w_gf rfl) (fun hc => v_fa fa33_4 rfl (by first | exact gve hc rfl | exact gve (and_l hc) rfl | exact gve (and_l (and_l hc)) rfl | rfl)) ?_
  refine s_gval rfl rfl rfl (by first | exact w_ff rfl | exact w_gf rfl) (fun hc => v_load1 rfl (by first | exact gve hc rfl | exact gve (and_l hc) rfl | exact gve (and_l (and_l hc)) rfl | rfl) Try.underlying9 rfl (cx.cell 0 rfl rfl)) ?_
  refine s_gval rfl rfl rfl (by first | exact w_ff rfl | exact w_gf rfl) (fun hc => v_strNe rfl (by first | exact gve hc rfl | exact gve (and_l hc) rfl | exact gve (and_l (and_l hc)) rfl | rfl) (by first | exact gve hc rfl | exact gve (and_l hc) rfl | exact gve (and_l (and_l hc)) rfl | rfl)) ?_
  refine s_val rfl rfl (v_or rfl rfl rfl rfl) ?_
  refine s_val rfl rfl (v_move rfl rfl) ?_
  refine s_gval rfl rfl rfl (by first | exact w_ff rfl | exact w_gf rfl) (fun hc => v_fa fa33_5 rfl (by first | exact gve hc rfl | exact gve (and_l hc) rfl | exact gve (and_l (and_l hc)) rfl | rfl)) ?_
  refine s_gval rfl rfl rfl (by first | exact w_ff rfl | exact w_gf rfl) (fun hc => v_load1 rfl (by first | exact gve hc rfl | exact gve (and_l hc) rfl | exact gve (and_l (and_l hc)) rfl | rfl) Try.underlying29 rfl (cx.cell 1 rfl rfl)) ?_
  refine s_gval rfl rfl rfl (by first | exact w_ff rfl | exact w_gf rfl) (fun hc => v_b2sR rfl Try.underlying29 Try.underlying5 Try.underlying9 (RepB.mono (fun _ h => h) (fun b hb => cx.ext.block b hb) hB1) (by first | exact gve hc rfl | exact gve (and_l hc) rfl | exact gve (and_l (and_l hc)) rfl | rfl)) ?_
  refine s_gval rfl rfl rfl (by first | exact w_ff rfl | exact w_gf rfl) (fun hc => v_fa fa33_5 rfl (by first | exact gve hc rfl | exact gve (and_l hc) rfl | exact gve (and_l (and_l hc)) rfl | rfl)) ?_
  refine s_gval rfl rfl rfl (by first | exact w_ff rfl | exact w_gf rfl) (fun hc => v_load1 rfl (by first | exact gve hc rfl | exact gve (and_l hc) rfl | exact gve (and_l (and_l hc)) rfl | rfl) Try.underlying29 rfl (cx.cell 0 rfl rfl)) ?_
  refine s_gval rfl rfl rfl (by first | exact w_ff rfl | exact w_gf rfl) (fun hc => v_b2sR rfl Try.underlying29 Try.underlying5 Try.underlying9 (RepB.mono (fun _ h => h) (fun b hb => cx.ext.block b hb) hB2) (by first | exact gve hc rfl | exact gve (and_l hc) rfl | exact gve (and_l (and_l hc)) rfl | rfl)) ?_
  refine s_gval rfl rfl rfl (by first | exact w_ff rfl | exact w_gf rfl) (fun hc => v_strNe rfl (by first | exact gve hc rfl | exact gve (and_l hc) rfl | exact gve (and_l (and_l hc)) rfl | rfl) (by first | exact gve hc rfl | exact gve (and_l hc) rfl | exact gve (and_l (and_l hc)) rfl | rfl)) ?_
  refine s_val rfl rfl (v_or rfl rfl rfl rfl) ?_
  refine s_val rfl rfl (v_move rfl rfl) ?_
  refine s_gval rfl rfl rfl (by first | exact w_ff rfl | exact w_gf rfl) (fun hc => v_fa fa33_6 rfl (by first | exact gve hc rfl | exact gve (and_l hc) rfl | exact gve (and_l (and_l hc)) rfl | rfl)) ?_
  refine s_gval rfl rfl rfl (by first | exact w_ff rfl | exact w_gf rfl) (fun hc => v_load1 rfl (by first | exact gve hc rfl | exact gve (and_l hc) rfl | exact gve (and_l (and_l hc)) rfl | rfl) Try.underlying30 rfl (cx.cell 1 rfl rfl)) ?_
  refine s_gval rfl rfl rfl (by first | exact w_ff rfl | exact w_gf rfl) (fun hc => v_lenSlice rfl (by first | exact gve hc rfl | exact gve (and_l hc) rfl | exact gve (and_l (and_l hc)) rfl | rfl) Try.underlying30) ?_
  refine s_gval rfl rfl rfl (by first | exact w_ff rfl | exact w_gf rfl) (fun hc => v_fa fa33_6 rfl (by first | exact gve hc rfl | exact gve (and_l hc) rfl | exact gve (and_l (and_l hc)) rfl | rfl)) ?_
  refine s_gval rfl rfl rfl (by first | exact w_ff rfl | exact w_gf rfl) (fun hc => v_load1 rfl (by first | exact gve hc rfl | exact gve (and_l hc) rfl | exact gve (and_l (and_l hc)) rfl | rfl) Try.underlying30 rfl (cx.cell 0 rfl rfl)) ?_
  refine s_gval rfl rfl rfl (by first | exact w_ff rfl | exact w_gf rfl) (fun hc => v_lenSlice rfl (by first | exact gve hc rfl | exact gve (and_l hc) rfl | exact gve (and_l (and_l hc)) rfl | rfl) Try.underlying30) ?_
  refine s_gval rfl rfl rfl (by first | exact w_ff rfl | exact w_gf rfl) (fun hc => v_cmp rfl (by first | exact gve hc rfl | exact gve (and_l hc) rfl | exact gve (and_l (and_l hc)) rfl | rfl) (by first | exact gve hc rfl | exact gve (and_l hc) rfl | exact gve (and_l (and_l hc)) rfl | rfl) rfl) ?_
  refine s_val rfl rfl (v_or rfl rfl rfl rfl) ?_
  refine s_val rfl rfl (v_move rfl rfl) ?_
  refine s_gval rfl rfl rfl (by first | exact w_ff rfl | exact w_gf rfl) (fun hc => v_fa fa33_7 rfl (by first | exact gve hc rfl | exact gve (and_l hc) rfl | exact gve (and_l (and_l hc)) rfl | rfl)) ?_
  refine s_gval rfl rfl rfl (by first | exact w_ff rfl | exact w_gf rfl) (fun hc => v_load1 rfl (by first | exact gve hc rfl | exact gve (and_l hc) rfl | exact gve (and_l (and_l hc)) rfl | rfl) Try.underlying31 rfl (cx.cell 1 rfl rfl)) ?_
  refine s_gval rfl rfl rfl (by first | exact w_ff rfl | exact w_gf rfl) (fun hc => v_lenSlice rfl (by first | exact gve hc rfl | exact gve (and_l hc) rfl | exact gve (and_l (and_l hc)) rfl | rfl) Try.underlying31) ?_
  refine s_gval rfl rfl rfl (by first | exact w_ff rfl | exact w_gf rfl) (fun hc => v_fa fa33_7 rfl (by first | exact gve hc rfl | exact gve (and_l hc) rfl | exact gve (and_l (and_l hc)) rfl | rfl)) ?_
  refine s_gval rfl rfl rfl (by first | exact w_ff rfl | exact w_gf rfl) (fun hc => v_load1 rfl (by first | exact gve hc rfl | exact gve (and_l hc) rfl | exact gve (and_l (and_l hc)) rfl | rfl) Try.underlying31 rfl (cx.cell 0 rfl rfl)) ?_
  refine s_gval rfl rfl rfl (by first | exact w_ff rfl | exact w_gf rfl) (fun hc => v_lenSlice rfl (by first | exact gve hc rfl | exact gve (and_l hc) rfl | exact gve (and_l (and_l hc)) rfl | rfl) Try.underlying31) ?_
  refine s_gval rfl rfl rfl (by first | exact w_ff rfl | exact w_gf rfl) (fun hc => v_cmp rfl (by first | exact gve hc rfl | exact gve (and_l hc) rfl | exact gve (and_l (and_l hc)) rfl | rfl) (by first | exact gve hc rfl | exact gve (and_l hc) rfl | exact gve (and_l (and_l hc)) rfl | rfl) rfl) ?_
  refine s_val rfl rfl (v_or rfl rfl rfl rfl) ?_
  refine wpList_nil ?_
  refine c_split rfl (fun hc66 => ?_) (fun hc66 => ?_)
  · skip
    skip
    refine wp_seq ?_
    refine wp_region_lit ?_
    refine s_val rfl rfl (v_assign rfl rfl) ?_
    refine wpList_nil ?_
    refine wp_ret ?_
    refine ret_tmp Try.results22 rfl ?_
    refine ⟨cx.ext, _, rfl, ?_⟩
    constructor
    · intro h; cases h
    · intro h
      exfalso
      subst h
      simp at hc66
  · skip
    skip
    have hq := hc66
    simp only [Bool.or_eq_false_iff, Bool.not_eq_false', decide_eq_false_iff_not, bne_eq_false_iff_eq, Bool.and_eq_true, decide_eq_true_eq, beq_iff_eq, strB_inj] at hq
    have hsc : v.sc = u.sc := by
      rw [sc_iff]
      simp_all
    have hby : v.bytes = u.bytes := by simp_all
    have hll : v.list.length = u.list.length := by
      have : (v.list.length : Int) = u.list.length := by simp_all
      omega
    have hlf : v.fields.length = u.fields.length := by
      have : (v.fields.length : Int) = u.fields.length := by simp_all
      omega
    refine wp_skip ?_
    refine wp_seq ?_
    refine wp_seq ?_
    refine wp_region_lit ?_
    refine s_val rfl rfl (v_assign rfl rfl) ?_
    refine wpList_nil ?_
    refine wp_block ?_
    refine w_loop (fun k f w1 => ∃ i : Nat, k + i = v.list.length ∧ f 2 = .pointer (some ⟨b2, 0, none⟩) ∧ f 3 = .pointer (some ⟨b3, 0, none⟩) ∧ f 5 = .int .i64 i ∧ Ctx w0 w1 [(b3, .cells (vrow u.sc bs2 (.slice la2 u.list.length lc2) (.slice fa2 u.fields.length fc2)).toArray 33), (b2, .cells (vrow v.sc bs1 (.slice la1 v.list.length lc1) (.slice fa1 v.fields.length fc1)).toArray 33)] ∧ ∀ (j : Nat) (x y : V), j < i → v.list[j]? = some x → u.list[j]? = some y → x = y) (v.list.length) ?_ ?_
    · skip
      exact ⟨0, by omega, rfl, rfl, rfl, cx, fun j x y hj => by omega⟩
    intro gk4 f w hJ
    obtain ⟨i, hki, hs2, hs3, hs5, cx, hall⟩ := hJ
    refine wp_seq ?_
    refine wp_seq ?_
    refine wp_region_lit ?_
    refine s_val rfl rfl (v_move rfl hs5) ?_
    refine s_val rfl rfl (v_fa fa33_6 rfl hs2) ?_
    refine s_val rfl rfl (v_load1 rfl rfl Try.underlying30 rfl (cx.cell 1 rfl rfl)) ?_
    refine s_val rfl rfl (v_lenSlice rfl rfl Try.underlying30) ?_
    refine s_val rfl rfl (v_cmp rfl rfl rfl rfl) ?_
    refine wpList_nil ?_
    refine c_split rfl (fun hc71 => ?_) (fun hc71 => ?_)
    · skip
      try simp only [Bool.and_eq_true, Bool.or_eq_true, Bool.and_eq_false_iff, Bool.or_eq_false_iff, Bool.not_eq_true', Bool.not_eq_false', decide_eq_true_eq, decide_eq_false_iff_not, beq_iff_eq, beq_eq_false_iff_ne, bne_iff_ne, bne_eq_false_iff_eq, ne_eq, Classical.not_not] at hc71
      have hge1 : v.list[i]? = some v.list[i] := List.getElem?_eq_getElem (by omega)
      have hge2 : u.list[i]? = some u.list[i] := List.getElem?_eq_getElem (by omega)
      obtain ⟨x1, hx1, hv1⟩ := hl1 i _ hge1
      obtain ⟨x2, hx2, hv2⟩ := hl2 i _ hge2
      obtain rfl := ha1 (by omega)
      obtain rfl := ha2 (by omega)
      obtain ⟨b84, hb84⟩ := bool_of (v.list[i] = u.list[i])
      refine wp_skip ?_
      refine wp_seq ?_
      refine wp_block ?_
      refine wp_seq ?_
      refine w_quiet cx mixed (by kernel_rfl) ?_
      skip
      refine q_val rfl rfl (fun w cx hwQ => v_fa fa33_6 rfl hs2) ?_
      refine q_val rfl rfl (fun w cx hwQ => v_load1 rfl rfl Try.underlying30 rfl (cx.cell 1 rfl rfl)) ?_
      refine q_val rfl rfl (fun w cx hwQ => v_move rfl hs5) ?_
      refine q_val rfl rfl (fun w cx hwQ => v_ia Try.underlying30 sz33 rfl rfl rfl (by omega) (by omega)) ?_
      refine q_val rfl rfl (fun w cx hwQ => v_load rfl rfl Try.underlying33 rfl sz33 (hx1.up cx.ext) hv1.len) ?_
      refine q_val rfl rfl (fun w cx hwQ => v_fa fa33_6 rfl hs3) ?_
      refine q_val rfl rfl (fun w cx hwQ => v_load1 rfl rfl Try.underlying30 rfl (cx.cell 0 rfl rfl)) ?_
      refine q_val rfl rfl (fun w cx hwQ => v_move rfl hs5) ?_
      refine q_val rfl rfl (fun w cx hwQ => v_ia Try.underlying30 sz33 rfl rfl rfl (by omega) (by omega)) ?_
      refine q_val rfl rfl (fun w cx hwQ => v_load rfl rfl Try.underlying33 rfl sz33 (hx2.up cx.ext) hv2.len) ?_
      refine q_call rfl rfl (runs_fn Try.func22 rfl rfl rfl rfl) (fun w cx hwQ => (ihl _ (List.getElem_mem _) _ _ _ _ (hv1.up cx.ext) (hv2.up cx.ext) (hfin.elem (List.getElem_mem _)) (hfin2.elem (List.getElem_mem _))).det fun b hb => Bool.eq_iff_iff.2 (hb.trans hb84.symm)) ?_
      refine q_val rfl rfl (fun w cx hwQ => v_not rfl rfl) ?_
      refine q_nil ?_; rintro w ⟨cx, hwQ6⟩
      refine c_split rfl (fun hc85 => ?_) (fun hc85 => ?_)
      · skip
        skip
        refine wp_seq ?_
        refine wp_region_lit ?_
        refine s_val rfl rfl (v_assign rfl rfl) ?_
        refine wpList_nil ?_
        refine wp_ret ?_
        refine ret_tmp Try.results22 rfl ?_
        refine ⟨cx.ext, _, rfl, ?_⟩
        constructor
        · intro h; cases h
        · intro h
          exfalso
          subst h
          have := hb84.2 rfl
          rw [this] at hc85
          cases hc85
      · skip
        skip
        refine wp_skip ?_
        refine wp_region_lit ?_
        refine s_val rfl rfl (v_move rfl hs5) ?_
        refine s_val rfl rfl (v_add rfl rfl rfl (by omega) (by omega)) ?_
        refine s_val rfl rfl (v_assign rfl rfl) ?_
        refine wpList_nil ?_
        refine ⟨gk4 - 1, _, by omega, rfl, i + 1, by omega, hs2, hs3, rfl, cx, fun j x y hj hx hy => ?_⟩
        rcases Nat.lt_or_ge j i with h | h
        · exact hall j x y h hx hy
        · obtain rfl : j = i := by omega
          rw [hge1] at hx
          rw [hge2] at hy
          obtain rfl := Option.some.inj hx
          obtain rfl := Option.some.inj hy
          refine hb84.1 ?_
          cases b84
          · cases hc85
          · rfl
    · skip
      try simp only [Bool.and_eq_true, Bool.or_eq_true, Bool.and_eq_false_iff, Bool.or_eq_false_iff, Bool.not_eq_true', Bool.not_eq_false', decide_eq_true_eq, decide_eq_false_iff_not, beq_iff_eq, beq_eq_false_iff_ne, bne_iff_ne, bne_eq_false_iff_eq, ne_eq, Classical.not_not] at hc71
      refine wp_exit ?_
      refine wp_seq ?_
      refine wp_seq ?_
      refine wp_region_lit ?_
      refine s_val rfl rfl (v_assign rfl rfl) ?_
      refine wpList_nil ?_
      refine wp_block ?_
      refine w_loop (fun k f w1 => ∃ i : Nat, k + i = v.fields.length ∧ f 2 = .pointer (some ⟨b2, 0, none⟩) ∧ f 3 = .pointer (some ⟨b3, 0, none⟩) ∧ f 6 = .int .i64 i ∧ Ctx w0 w1 [(b3, .cells (vrow u.sc bs2 (.slice la2 u.list.length lc2) (.slice fa2 u.fields.length fc2)).toArray 33), (b2, .cells (vrow v.sc bs1 (.slice la1 v.list.length lc1) (.slice fa1 v.fields.length fc1)).toArray 33)] ∧ ∀ (j : Nat) (x y : ByteArray × V), j < i → v.fields[j]? = some x → u.fields[j]? = some y → x = y) (v.fields.length) ?_ ?_
      · skip
        exact ⟨0, by omega, hs2, hs3, rfl, cx, fun j x y hj => by omega⟩
      intro gk9 f w hJ
      obtain ⟨i, hki, hs2, hs3, hs6, cx, hall2⟩ := hJ
      refine wp_seq ?_
      refine wp_seq ?_
      refine wp_region_lit ?_
      refine s_val rfl rfl (v_move rfl hs6) ?_
      refine s_val rfl rfl (v_fa fa33_7 rfl hs2) ?_
      refine s_val rfl rfl (v_load1 rfl rfl Try.underlying31 rfl (cx.cell 1 rfl rfl)) ?_
      refine s_val rfl rfl (v_lenSlice rfl rfl Try.underlying31) ?_
      refine s_val rfl rfl (v_cmp rfl rfl rfl rfl) ?_
      refine wpList_nil ?_
      refine c_split rfl (fun hc90 => ?_) (fun hc90 => ?_)
      · skip
        try simp only [Bool.and_eq_true, Bool.or_eq_true, Bool.and_eq_false_iff, Bool.or_eq_false_iff, Bool.not_eq_true', Bool.not_eq_false', decide_eq_true_eq, decide_eq_false_iff_not, beq_iff_eq, beq_eq_false_iff_ne, bne_iff_ne, bne_eq_false_iff_eq, ne_eq, Classical.not_not] at hc90
        have hge1 : v.fields[i]? = some v.fields[i] := List.getElem?_eq_getElem (by omega)
        have hge2 : u.fields[i]? = some u.fields[i] := List.getElem?_eq_getElem (by omega)
        obtain ⟨x1, hx1, hv1⟩ := hf1 i _ hge1
        obtain ⟨x2, hx2, hv2⟩ := hf2 i _ hge2
        obtain rfl := hg1 (by omega)
        obtain rfl := hg2 (by omega)
        obtain ⟨y1, y2, y3, rfl, _⟩ := hv1.open
        obtain ⟨z1, z2, z3, rfl, _⟩ := hv2.open
        obtain ⟨b119, hb119⟩ := bool_of (v.fields[i].2 = u.fields[i].2)
        refine wp_skip ?_
        refine wp_seq ?_
        refine wp_block ?_
        refine wp_seq ?_
        refine w_quiet cx mixed (by kernel_rfl) ?_
        skip
        refine q_val rfl rfl (fun w cx hwQ => v_fa fa33_7 rfl hs2) ?_
        refine q_val rfl rfl (fun w cx hwQ => v_load1 rfl rfl Try.underlying31 rfl (cx.cell 1 rfl rfl)) ?_
        refine q_val rfl rfl (fun w cx hwQ => v_move rfl hs6) ?_
        refine q_val rfl rfl (fun w cx hwQ => v_ia Try.underlying31 sz77 rfl rfl rfl (by omega) (by omega)) ?_
        refine q_val rfl rfl (fun w cx hwQ => v_fa fa77_0 rfl rfl) ?_
        refine q_val rfl rfl (fun w cx hwQ => v_load1 rfl rfl Try.underlying9 rfl ((hx1.up cx.ext).cell 0 rfl)) ?_
        refine q_val rfl rfl (fun w cx hwQ => v_fa fa33_7 rfl hs3) ?_
        refine q_val rfl rfl (fun w cx hwQ => v_load1 rfl rfl Try.underlying31 rfl (cx.cell 0 rfl rfl)) ?_
        refine q_val rfl rfl (fun w cx hwQ => v_move rfl hs6) ?_
        refine q_val rfl rfl (fun w cx hwQ => v_ia Try.underlying31 sz77 rfl rfl rfl (by omega) (by omega)) ?_
        refine q_val rfl rfl (fun w cx hwQ => v_fa fa77_0 rfl rfl) ?_
        refine q_val rfl rfl (fun w cx hwQ => v_load1 rfl rfl Try.underlying9 rfl ((hx2.up cx.ext).cell 0 rfl)) ?_
        refine q_val rfl rfl (fun w cx hwQ => v_strNe rfl rfl rfl) ?_
        refine q_val rfl rfl (fun w cx hwQ => v_move rfl rfl) ?_
        refine q_gval rfl rfl rfl (by first | exact w_ff rfl | exact w_gf rfl) (fun hc w cx hwQ => v_fa fa33_7 rfl hs2) ?_
        refine q_gval rfl rfl rfl (by first | exact w_ff rfl | exact w_gf rfl) (fun hc w cx hwQ => v_load1 rfl (by first | exact gve hc rfl | exact gve (and_l hc) rfl | exact gve (and_l (and_l hc)) rfl | rfl) Try.underlying31 rfl (cx.cell 1 rfl rfl)) ?_
        refine q_gval rfl rfl rfl (by first | exact w_ff rfl | exact w_gf rfl) (fun hc w cx hwQ => v_move rfl hs6) ?_
        refine q_gval rfl rfl rfl (by first | exact w_ff rfl | exact w_gf rfl) (fun hc w cx hwQ => v_ia Try.underlying31 sz77 rfl (by first | exact gve hc rfl | exact gve (and_l hc) rfl | exact gve (and_l (and_l hc)) rfl | rfl) (by first | exact gve hc rfl | exact gve (and_l hc) rfl | exact gve (and_l (and_l hc)) rfl | rfl) (by omega) (by omega)) ?_
        refine q_gval rfl rfl rfl (by first | exact w_ff rfl | exact w_gf rfl) (fun hc w cx hwQ => v_fa fa77_1 rfl (by first | exact gve hc rfl | exact gve (and_l hc) rfl | exact gve (and_l (and_l hc)) rfl | rfl)) ?_
        refine q_gval rfl rfl rfl (by first | exact w_ff rfl | exact w_gf rfl) (fun hc w cx hwQ => v_load rfl (by first | exact gve hc rfl | exact gve (and_l hc) rfl | exact gve (and_l (and_l hc)) rfl | rfl) Try.underlying33 rfl sz33 ((hx1.up cx.ext).rv 1 rfl) rfl) ?_
        refine q_gval rfl rfl rfl (by first | exact w_ff rfl | exact w_gf rfl) (fun hc w cx hwQ => v_fa fa33_7 rfl hs3) ?_
        refine q_gval rfl rfl rfl (by first | exact w_ff rfl | exact w_gf rfl) (fun hc w cx hwQ => v_load1 rfl (by first | exact gve hc rfl | exact gve (and_l hc) rfl | exact gve (and_l (and_l hc)) rfl | rfl) Try.underlying31 rfl (cx.cell 0 rfl rfl)) ?_
        refine q_gval rfl rfl rfl (by first | exact w_ff rfl | exact w_gf rfl) (fun hc w cx hwQ => v_move rfl hs6) ?_
        refine q_gval rfl rfl rfl (by first | exact w_ff rfl | exact w_gf rfl) (fun hc w cx hwQ => v_ia Try.underlying31 sz77 rfl (by first | exact gve hc rfl | exact gve (and_l hc) rfl | exact gve (and_l (and_l hc)) rfl | rfl) (by first | exact gve hc rfl | exact gve (and_l hc) rfl | exact gve (and_l (and_l hc)) rfl | rfl) (by omega) (by omega)) ?_
        refine q_gval rfl rfl rfl (by first | exact w_ff rfl | exact w_gf rfl) (fun hc w cx hwQ => v_fa fa77_1 rfl (by first | exact gve hc rfl | exact gve (and_l hc) rfl | exact gve (and_l (and_l hc)) rfl | rfl)) ?_
        refine q_gval rfl rfl rfl (by first | exact w_ff rfl | exact w_gf rfl) (fun hc w cx hwQ => v_load rfl (by first | exact gve hc rfl | exact gve (and_l hc) rfl | exact gve (and_l (and_l hc)) rfl | rfl) Try.underlying33 rfl sz33 ((hx2.up cx.ext).rv 1 rfl) rfl) ?_
        refine q_gcall rfl rfl rfl (by first | exact w_ff rfl | exact w_gf rfl) (fun hc => runs_fn Try.func22 rfl rfl rfl (cons_eq (by first | exact gve hc rfl | exact gve (and_l hc) rfl | exact gve (and_l (and_l hc)) rfl | rfl) (cons_eq (by first | exact gve hc rfl | exact gve (and_l hc) rfl | exact gve (and_l (and_l hc)) rfl | rfl) rfl))) (fun hc w cx hwQ => (ihf _ (List.getElem_mem _) _ _ _ _ (hv1.up cx.ext) (hv2.up cx.ext) (hfin.field (List.getElem_mem _)).2 (hfin2.field (List.getElem_mem _)).2).det fun b hb => Bool.eq_iff_iff.2 (hb.trans hb119.symm)) ?_
        refine q_gval rfl rfl rfl (by first | exact w_ff rfl | exact w_gf rfl) (fun hc w cx hwQ => v_not rfl (by first | exact gve hc rfl | exact gve (and_l hc) rfl | exact gve (and_l (and_l hc)) rfl | rfl)) ?_
        refine q_val rfl rfl (fun w cx hwQ => v_or rfl rfl rfl rfl) ?_
        refine q_nil ?_; rintro w ⟨cx, hwQ11⟩
        refine c_split rfl (fun hc121 => ?_) (fun hc121 => ?_)
        · skip
          skip
          refine wp_seq ?_
          refine wp_region_lit ?_
          refine s_val rfl rfl (v_assign rfl rfl) ?_
          refine wpList_nil ?_
          refine wp_ret ?_
          refine ret_tmp Try.results22 rfl ?_
          refine ⟨cx.ext, _, rfl, ?_⟩
          constructor
          · intro h; cases h
          · intro h
            exfalso
            subst h
            have := hb119.2 rfl
            rw [this] at hc121
            simp at hc121
        · skip
          skip
          refine wp_skip ?_
          refine wp_region_lit ?_
          refine s_val rfl rfl (v_move rfl hs6) ?_
          refine s_val rfl rfl (v_add rfl rfl rfl (by omega) (by omega)) ?_
          refine s_val rfl rfl (v_assign rfl rfl) ?_
          refine wpList_nil ?_
          refine ⟨gk9 - 1, _, by omega, rfl, i + 1, by omega, hs2, hs3, rfl, cx, fun j x y hj hx hy => ?_⟩
          rcases Nat.lt_or_ge j i with h | h
          · exact hall2 j x y h hx hy
          · obtain rfl : j = i := by omega
            rw [hge1] at hx
            rw [hge2] at hy
            obtain rfl := Option.some.inj hx
            obtain rfl := Option.some.inj hy
            simp only [Bool.or_eq_false_iff, Bool.not_eq_false', decide_eq_true_eq] at hc121
            exact Prod.ext hc121.1 (hb119.1 hc121.2)
      · skip
        try simp only [Bool.and_eq_true, Bool.or_eq_true, Bool.and_eq_false_iff, Bool.or_eq_false_iff, Bool.not_eq_true', Bool.not_eq_false', decide_eq_true_eq, decide_eq_false_iff_not, beq_iff_eq, beq_eq_false_iff_ne, bne_iff_ne, bne_eq_false_iff_eq, ne_eq, Classical.not_not] at hc90
        refine wp_exit ?_
        refine wp_seq ?_
        refine wp_region_lit ?_
        refine s_val rfl rfl (v_assign rfl rfl) ?_
        refine wpList_nil ?_
        refine wp_ret ?_
        refine ret_tmp Try.results22 rfl ?_
        refine ⟨cx.ext, _, rfl, ?_⟩
        constructor
        · intro _
          rw [v_iff]
          refine ⟨hsc, hby, ?_, ?_⟩
          · refine List.ext_getElem hll fun j hj1 hj2 => ?_
            exact hall j _ _ (by omega) (List.getElem?_eq_getElem hj1) (List.getElem?_eq_getElem hj2)
          · refine List.ext_getElem hlf fun j hj1 hj2 => ?_
            exact hall2 j _ _ (by omega) (List.getElem?_eq_getElem hj1) (List.getElem?_eq_getElem hj2)
        · intro _; rfl
end Go.Proofs.Ytmkihcdcgkdilaa
