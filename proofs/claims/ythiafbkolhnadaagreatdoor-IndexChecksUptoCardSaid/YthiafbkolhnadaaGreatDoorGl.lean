/-
  The checks of an index: the reference.
-/
import Derived.Test.YthiafbkolhnadaaGreatDoorGk
set_option linter.unusedSimpArgs false
set_option linter.unusedVariables false
namespace Go.Proofs.YthiafbkolhnadaaGreatDoor
open Go Go.Dk Go.RowKit Go.Lib
attribute [local irreducible] Go.wpList Go.Code.wp Go.bodyPost Go.wpStill Go.wpQuiet
def spanB (a b n : Int) : Bool := decide (0 ≤ a) && decide (a ≤ b) && decide (b ≤ n)
theorem spanB_T {a b n : Int} : spanB a b n = true ↔ 0 ≤ a ∧ a ≤ b ∧ b ≤ n := by unfold spanB; simp [and_assoc]
theorem spanB_F {a b n : Int} : spanB a b n = false ↔ ¬ (0 ≤ a ∧ a ≤ b ∧ b ≤ n) := by rw [← spanB_T]; simp
theorem c43e (a b n : Int) (w0 : World) : Fc Tryz.prog 43 [.agg #[.int .i64 a, .int .i64 b], .int .i64 n] w0 (fun v _ => v = .bool (spanB a b n)) :=
  (c43 a b n w0).mono fun v w' _ ⟨r, hv, hr⟩ => by
    rw [hv]
    congr 1
    rw [Bool.eq_iff_iff]; exact hr.trans spanB_T.symm
theorem mem_take {α : Type} {l : List α} {i j : Nat} {y : α} (h : j < i) (hy : l[j]? = some y) : y ∈ l.take i := List.mem_of_getElem? (i := j) (by rw [List.getElem?_take, if_pos h]; exact hy)
set_option maxHeartbeats 4000000 in
set_option maxRecDepth 10000 in
theorem c14 (r : List Value) (x : Idx) (w0 : World) (hx : IdxV w0 x r) (hs : Szd x) : Fc Tryz.prog 14 [.agg r.toArray] w0 (IsI fun m => m = chkX x) := by
  obtain ⟨ve, vc, rfl, hE, hC⟩ := hx
  obtain ⟨a, c, b, o, rfl, ha, hr⟩ := hE.form
  obtain ⟨a2, c2, b2, o2, rfl, _, _⟩ := hC.form
  refine ret_enter Tryz.func14 rfl Tryz.ntmps14 rfl ?_
  have cx := Ctx.start w0
  refine wp_seq ?_
  refine wp_region_lit ?_
  refine s_box cx rfl rfl rfl rfl rfl ?_; intro b1 w cx hb1 hw1
  refine s_val rfl rfl (v_assign rfl rfl) ?_
  refine wpList_nil ?_
  refine wp_seq ?_
  refine wp_seq ?_
  refine wp_region_lit ?_
  refine s_val rfl rfl (v_fa fa35_0 rfl rfl) ?_
  refine s_val rfl rfl (v_load1 rfl rfl Tryz.underlying3 rfl (cx.cell 0 rfl rfl)) ?_
  refine s_val rfl rfl (v_cmp rfl rfl rfl rfl) ?_
  refine s_val rfl rfl (v_move rfl rfl) ?_
  refine s_gval rfl rfl rfl (by first | exact w_tt rfl | exact w_gt rfl) (fun hc => v_fa fa35_0 rfl (by first | exact gve hc rfl | exact gve (and_l hc) rfl | exact gve (and_l (and_l hc)) rfl | rfl)) ?_
  refine s_gval rfl rfl rfl (by first | exact w_tt rfl | exact w_gt rfl) (fun hc => v_load1 rfl (by first | exact gve hc rfl | exact gve (and_l hc) rfl | exact gve (and_l (and_l hc)) rfl | rfl) Tryz.underlying3 rfl (cx.cell 0 rfl rfl)) ?_
  refine s_gval rfl rfl rfl (by first | exact w_tt rfl | exact w_gt rfl) (fun hc => v_cmp rfl (by first | exact gve hc rfl | exact gve (and_l hc) rfl | exact gve (and_l (and_l hc)) rfl | rfl) rfl rfl) ?_
  refine s_val rfl rfl (v_and rfl rfl rfl rfl) ?_
  refine s_val rfl rfl (v_move rfl rfl) ?_
  refine s_gval rfl rfl rfl (by first | exact w_ff rfl | exact w_gf rfl) (fun hc => v_fa fa35_1 rfl (by first | exact gve hc rfl | exact gve (and_l hc) rfl | exact gve (and_l (and_l hc)) rfl | rfl)) ?_
  refine s_gval rfl rfl rfl (by first | exact w_ff rfl | exact w_gf rfl) (fun hc => v_load1 rfl (by first | exact gve hc rfl | exact gve (and_l hc) rfl | exact gve (and_l (and_l hc)) rfl | rfl) Tryz.underlying3 rfl (cx.cell 0 rfl rfl)) ?_
  refine s_gval rfl rfl rfl (by first | exact w_ff rfl | exact w_gf rfl) (fun hc => v_cmp rfl (by first | exact gve hc rfl | exact gve (and_l hc) rfl | exact gve (and_l (and_l hc)) rfl | rfl) rfl rfl) ?_
  refine s_val rfl rfl (v_or rfl rfl rfl rfl) ?_
  refine s_val rfl rfl (v_move rfl rfl) ?_
  refine s_gval rfl rfl rfl (by first | exact w_ff rfl | exact w_gf rfl) (fun hc => v_fa fa35_1 rfl (by first | exact gve hc rfl | exact gve (and_l hc) rfl | exact gve (and_l (and_l hc)) rfl | rfl)) ?_
  refine s_gval rfl rfl rfl (by first | exact w_ff rfl | exact w_gf rfl) (fun hc => v_load1 rfl (by first | exact gve hc rfl | exact gve (and_l hc) rfl | exact gve (and_l (and_l hc)) rfl | rfl) Tryz.underlying3 rfl (cx.cell 0 rfl rfl)) ?_
  refine s_gval rfl rfl rfl (by first | exact w_ff rfl | exact w_gf rfl) (fun hc => v_cmp rfl (by first | exact gve hc rfl | exact gve (and_l hc) rfl | exact gve (and_l (and_l hc)) rfl | rfl) rfl rfl) ?_
  refine s_val rfl rfl (v_or rfl rfl rfl rfl) ?_
  refine s_val rfl rfl (v_move rfl rfl) ?_
  refine s_gval rfl rfl rfl (by first | exact w_ff rfl | exact w_gf rfl) (fun hc => v_fa fa35_2 rfl (by first | exact gve hc rfl | exact gve (and_l hc) rfl | exact gve (and_l (and_l hc)) rfl | rfl)) ?_
  refine s_gval rfl rfl rfl (by first | exact w_ff rfl | exact w_gf rfl) (fun hc => v_load1 rfl (by first | exact gve hc rfl | exact gve (and_l hc) rfl | exact gve (and_l (and_l hc)) rfl | rfl) Tryz.underlying3 rfl (cx.cell 0 rfl rfl)) ?_
  refine s_gval rfl rfl rfl (by first | exact w_ff rfl | exact w_gf rfl) (fun hc => v_cmp rfl (by first | exact gve hc rfl | exact gve (and_l hc) rfl | exact gve (and_l (and_l hc)) rfl | rfl) rfl rfl) ?_
  refine s_val rfl rfl (v_or rfl rfl rfl rfl) ?_
  refine s_val rfl rfl (v_move rfl rfl) ?_
  refine s_gval rfl rfl rfl (by first | exact w_ff rfl | exact w_gf rfl) (fun hc => v_fa fa35_2 rfl (by first | exact gve hc rfl | exact gve (and_l hc) rfl | exact gve (and_l (and_l hc)) rfl | rfl)) ?_
  refine s_gval rfl rfl rfl (by first | exact w_ff rfl | exact w_gf rfl) (fun hc => v_load1 rfl (by first | exact gve hc rfl | exact gve (and_l hc) rfl | exact gve (and_l (and_l hc)) rfl | rfl) Tryz.underlying3 rfl (cx.cell 0 rfl rfl)) ?_
  refine s_gval rfl rfl rfl (by first | exact w_ff rfl | exact w_gf rfl) (fun hc => v_cmp rfl (by first | exact gve hc rfl | exact gve (and_l hc) rfl | exact gve (and_l (and_l hc)) rfl | rfl) rfl rfl) ?_
  refine s_val rfl rfl (v_or rfl rfl rfl rfl) ?_
  refine s_val rfl rfl (v_move rfl rfl) ?_
  refine s_gval rfl rfl rfl (by first | exact w_ff rfl | exact w_gf rfl) (fun hc => v_fa fa35_0 rfl (by first | exact gve hc rfl | exact gve (and_l hc) rfl | exact gve (and_l (and_l hc)) rfl | rfl)) ?_
  refine s_gval rfl rfl rfl (by first | exact w_ff rfl | exact w_gf rfl) (fun hc => v_load1 rfl (by first | exact gve hc rfl | exact gve (and_l hc) rfl | exact gve (and_l (and_l hc)) rfl | rfl) Tryz.underlying3 rfl (cx.cell 0 rfl rfl)) ?_
  refine s_gval rfl rfl rfl (by first | exact w_ff rfl | exact w_gf rfl) (fun hc => v_cmp rfl (by first | exact gve hc rfl | exact gve (and_l hc) rfl | exact gve (and_l (and_l hc)) rfl | rfl) rfl rfl) ?_
  refine s_gval rfl rfl rfl (by first | exact w_ff rfl | exact w_gf rfl) (fun hc => v_move rfl (by first | exact gve hc rfl | exact gve (and_l hc) rfl | exact gve (and_l (and_l hc)) rfl | rfl)) ?_
  refine s_gval rfl rfl rfl (by first | exact w_tt rfl | exact w_gt rfl) (fun hc => v_fa fa35_4 rfl (by first | exact gve hc rfl | exact gve (and_l hc) rfl | exact gve (and_l (and_l hc)) rfl | rfl)) ?_
  refine s_gval rfl rfl rfl (by first | exact w_tt rfl | exact w_gt rfl) (fun hc => v_load1 rfl (by first | exact gve hc rfl | exact gve (and_l hc) rfl | exact gve (and_l (and_l hc)) rfl | rfl) Tryz.underlying33 rfl (cx.cell 0 rfl rfl)) ?_
  refine s_gval rfl rfl rfl (by first | exact w_tt rfl | exact w_gt rfl) (fun hc => v_lenSlice rfl (by first | exact gve hc rfl | exact gve (and_l hc) rfl | exact gve (and_l (and_l hc)) rfl | rfl) Tryz.underlying33) ?_
  refine s_gval rfl rfl rfl (by first | exact w_tt rfl | exact w_gt rfl) (fun hc => v_cmp rfl (by first | exact gve hc rfl | exact gve (and_l hc) rfl | exact gve (and_l (and_l hc)) rfl | rfl) rfl rfl) ?_
  refine s_gval rfl rfl rfl (by first | exact w_ff rfl | exact w_gf rfl) (fun hc => v_and_g hc rfl rfl rfl rfl) ?_
  refine s_val rfl rfl (v_or rfl rfl rfl rfl) ?_
  refine wpList_nil ?_
  refine c_split rfl (fun hc45 => ?_) (fun hc45 => ?_)
  · skip
    try simp only [Bool.and_eq_true, Bool.or_eq_true, Bool.and_eq_false_iff, Bool.or_eq_false_iff, Bool.not_eq_true', Bool.not_eq_false', decide_eq_true_eq, decide_eq_false_iff_not, beq_iff_eq, beq_eq_false_iff_ne, bne_iff_ne, bne_eq_false_iff_eq, ne_eq, Classical.not_not] at hc45
    have hh : hdrBad x := by unfold hdrBad; omega
    refine wp_seq ?_
    refine wp_region_lit ?_
    refine s_val rfl rfl (v_assign rfl rfl) ?_
    refine wpList_nil ?_
    refine wp_ret ?_
    refine ret_tmp Tryz.results14 rfl ?_
    refine ⟨cx.ext, _, rfl, ?_⟩
    exact (chkX_1 hh).symm
  · skip
    try simp only [Bool.and_eq_true, Bool.or_eq_true, Bool.and_eq_false_iff, Bool.or_eq_false_iff, Bool.not_eq_true', Bool.not_eq_false', decide_eq_true_eq, decide_eq_false_iff_not, beq_iff_eq, beq_eq_false_iff_ne, bne_iff_ne, bne_eq_false_iff_eq, ne_eq, Classical.not_not] at hc45
    have hh : ¬ hdrBad x := by unfold hdrBad; omega
    refine wp_skip ?_
    refine wp_seq ?_
    refine wp_seq ?_
    refine wp_region_lit ?_
    refine s_val rfl rfl (v_fa fa35_4 rfl rfl) ?_
    refine s_val rfl rfl (v_load1 rfl rfl Tryz.underlying33 rfl (cx.cell 0 rfl rfl)) ?_
    refine s_fnI cx (c42 _ _ _ (hC.up cx.ext) (by have := hs.cl; omega) hs.csz) Tryz.func42 rfl rfl rfl rfl rfl rfl ?_; intro q48 w cx hw48 hp48
    subst hp48
    refine s_val rfl rfl (v_assign rfl rfl) ?_
    refine wpList_nil ?_
    refine wp_seq ?_
    refine wp_region_lit ?_
    refine s_val rfl rfl (v_move rfl rfl) ?_
    refine s_val rfl rfl (v_cmp rfl rfl rfl rfl) ?_
    refine wpList_nil ?_
    refine c_split rfl (fun hc50 => ?_) (fun hc50 => ?_)
    · skip
      try simp only [Bool.and_eq_true, Bool.or_eq_true, Bool.and_eq_false_iff, Bool.or_eq_false_iff, Bool.not_eq_true', Bool.not_eq_false', decide_eq_true_eq, decide_eq_false_iff_not, beq_iff_eq, beq_eq_false_iff_ne, bne_iff_ne, bne_eq_false_iff_eq, ne_eq, Classical.not_not] at hc50
      refine wp_seq ?_
      refine wp_region_lit ?_
      refine s_val rfl rfl (v_move rfl rfl) ?_
      refine s_val rfl rfl (v_assign rfl rfl) ?_
      refine wpList_nil ?_
      refine wp_ret ?_
      refine ret_tmp Tryz.results14 rfl ?_
      refine ⟨cx.ext, _, rfl, ?_⟩
      exact (chkX_c hh hc50).symm
    · skip
      try simp only [Bool.and_eq_true, Bool.or_eq_true, Bool.and_eq_false_iff, Bool.or_eq_false_iff, Bool.not_eq_true', Bool.not_eq_false', decide_eq_true_eq, decide_eq_false_iff_not, beq_iff_eq, beq_eq_false_iff_ne, bne_iff_ne, bne_eq_false_iff_eq, ne_eq, Classical.not_not] at hc50
      have hce := hc50
      refine wp_skip ?_
      refine wp_seq ?_
      refine wp_seq ?_
      refine wp_region_lit ?_
      refine s_val rfl rfl (v_assign rfl rfl) ?_
      refine wpList_nil ?_
      refine wp_block ?_
      have hel := hs.el
      refine w_loop (fun k f w1 => ∃ (i b1 : Nat), k + i = x.ents.length ∧ f 1 = .pointer (some ⟨b1, 0, none⟩) ∧ f 4 = .int .i64 i ∧ Past x x.ents i ∧ Ctx w0 w1 [(b1, .cells ([.int .i64 x.fmt, .int .i64 x.size, .int .i64 x.depth, .slice a x.ents.length c, .slice a2 x.cols.length c2] : List Value).toArray 35)]) (x.ents.length) ?_ ?_
      · skip
        exact ⟨0, b1, by omega, rfl, rfl, Past.zero _ _, cx⟩
      intro gk7 f w hJ
      obtain ⟨i, b1, hk, hs1, hs4, hpast, cx⟩ := hJ
      refine wp_seq ?_
      refine wp_seq ?_
      refine wp_region_lit ?_
      refine s_val rfl rfl (v_move rfl hs4) ?_
      refine s_val rfl rfl (v_fa fa35_3 rfl hs1) ?_
      refine s_val rfl rfl (v_load1 rfl rfl Tryz.underlying32 rfl (cx.cell 0 rfl rfl)) ?_
      refine s_val rfl rfl (v_lenSlice rfl rfl Tryz.underlying32) ?_
      refine s_val rfl rfl (v_cmp rfl rfl rfl rfl) ?_
      refine wpList_nil ?_
      refine c_split rfl (fun hc56 => ?_) (fun hc56 => ?_)
      · skip
        try simp only [Bool.and_eq_true, Bool.or_eq_true, Bool.and_eq_false_iff, Bool.or_eq_false_iff, Bool.not_eq_true', Bool.not_eq_false', decide_eq_true_eq, decide_eq_false_iff_not, beq_iff_eq, beq_eq_false_iff_ne, bne_iff_ne, bne_eq_false_iff_eq, ne_eq, Classical.not_not] at hc56
        obtain ⟨e, he⟩ : ∃ e, x.ents[i]? = some e := ⟨x.ents[i]'(by omega), List.getElem?_eq_getElem _⟩
        obtain ⟨p, hrw, hp⟩ := hr i e he
        obtain ⟨pa, pc, rfl, hpc⟩ := hp.sl
        obtain rfl := ha (by omega)
        have hpl := hs.pl e (List.mem_of_getElem? he)
        refine wp_skip ?_
        refine wp_seq ?_
        refine wp_block ?_
        refine wp_seq ?_
        refine wp_region_lit ?_
        refine s_val rfl rfl (v_fa fa35_3 rfl hs1) ?_
        refine s_val rfl rfl (v_load1 rfl rfl Tryz.underlying32 rfl (cx.cell 0 rfl rfl)) ?_
        refine s_val rfl rfl (v_move rfl hs4) ?_
        refine s_val rfl rfl (v_ia Tryz.underlying32 sz52 rfl rfl rfl (by omega) (by omega)) ?_
        refine s_val rfl rfl (v_fa fa52_0 rfl rfl) ?_
        refine s_val rfl rfl (v_load1 rfl rfl Tryz.underlying28 rfl ((hrw.up cx.ext).cell 0 rfl)) ?_
        refine s_val rfl rfl (v_assign rfl rfl) ?_
        refine wpList_nil ?_
        refine wp_seq ?_
        refine wp_seq ?_
        refine wp_region_lit ?_
        refine s_val rfl rfl (v_move rfl rfl) ?_
        refine s_fnB cx (c15 _ _ _ (hp.up cx.ext) (by omega)) Tryz.func15 rfl rfl rfl rfl rfl rfl ?_; intro q66 w cx hw66 hp66
        refine s_val rfl rfl (v_not rfl rfl) ?_
        refine s_val rfl rfl (v_move rfl rfl) ?_
        refine s_gval rfl rfl rfl (by first | exact w_ff rfl | exact w_gf rfl) (fun hc => v_move rfl (by first | exact gve hc rfl | exact gve (and_l hc) rfl | exact gve (and_l (and_l hc)) rfl | rfl)) ?_
        refine s_gval rfl rfl rfl (by first | exact w_ff rfl | exact w_gf rfl) (fun hc => v_lenSlice rfl (by first | exact gve hc rfl | exact gve (and_l hc) rfl | exact gve (and_l (and_l hc)) rfl | rfl) Tryz.underlying28) ?_
        refine s_gval rfl rfl rfl (by first | exact w_ff rfl | exact w_gf rfl) (fun hc => v_cmp rfl (by first | exact gve hc rfl | exact gve (and_l hc) rfl | exact gve (and_l (and_l hc)) rfl | rfl) rfl rfl) ?_
        refine s_val rfl rfl (v_or rfl rfl rfl rfl) ?_
        refine s_val rfl rfl (v_move rfl rfl) ?_
        refine s_gval rfl rfl rfl (by first | exact w_ff rfl | exact w_gf rfl) (fun hc => v_move rfl (by first | exact gve hc rfl | exact gve (and_l hc) rfl | exact gve (and_l (and_l hc)) rfl | rfl)) ?_
        refine s_gval rfl rfl rfl (by first | exact w_ff rfl | exact w_gf rfl) (fun hc => v_lenSlice rfl (by first | exact gve hc rfl | exact gve (and_l hc) rfl | exact gve (and_l (and_l hc)) rfl | rfl) Tryz.underlying28) ?_
        refine s_gval rfl rfl rfl (by first | exact w_ff rfl | exact w_gf rfl) (fun hc => v_fa fa35_2 rfl hs1) ?_
        refine s_gval rfl rfl rfl (by first | exact w_ff rfl | exact w_gf rfl) (fun hc => v_load1 rfl (by first | exact gve hc rfl | exact gve (and_l hc) rfl | exact gve (and_l (and_l hc)) rfl | rfl) Tryz.underlying3 rfl (cx.cell 0 rfl rfl)) ?_
        refine s_gval rfl rfl rfl (by first | exact w_ff rfl | exact w_gf rfl) (fun hc => v_cmp rfl (by first | exact gve hc rfl | exact gve (and_l hc) rfl | exact gve (and_l (and_l hc)) rfl | rfl) (by first | exact gve hc rfl | exact gve (and_l hc) rfl | exact gve (and_l (and_l hc)) rfl | rfl) rfl) ?_
        refine s_val rfl rfl (v_or rfl rfl rfl rfl) ?_
        refine s_val rfl rfl (v_move rfl rfl) ?_
        refine s_gval rfl rfl rfl (by first | exact w_ff rfl | exact w_gf rfl) (fun hc => v_fa fa35_0 rfl hs1) ?_
        refine s_gval rfl rfl rfl (by first | exact w_ff rfl | exact w_gf rfl) (fun hc => v_load1 rfl (by first | exact gve hc rfl | exact gve (and_l hc) rfl | exact gve (and_l (and_l hc)) rfl | rfl) Tryz.underlying3 rfl (cx.cell 0 rfl rfl)) ?_
        refine s_gval rfl rfl rfl (by first | exact w_ff rfl | exact w_gf rfl) (fun hc => v_cmp rfl (by first | exact gve hc rfl | exact gve (and_l hc) rfl | exact gve (and_l (and_l hc)) rfl | rfl) rfl rfl) ?_
        refine s_gval rfl rfl rfl (by first | exact w_ff rfl | exact w_gf rfl) (fun hc => v_move rfl (by first | exact gve hc rfl | exact gve (and_l hc) rfl | exact gve (and_l (and_l hc)) rfl | rfl)) ?_
        refine s_gval rfl rfl rfl (by first | exact w_tt rfl | exact w_gt rfl) (fun hc => v_move rfl (by first | exact gve hc rfl | exact gve (and_l hc) rfl | exact gve (and_l (and_l hc)) rfl | rfl)) ?_
        refine s_gval rfl rfl rfl (by first | exact w_tt rfl | exact w_gt rfl) (fun hc => v_lenSlice rfl (by first | exact gve hc rfl | exact gve (and_l hc) rfl | exact gve (and_l (and_l hc)) rfl | rfl) Tryz.underlying28) ?_
        refine s_gval rfl rfl rfl (by first | exact w_tt rfl | exact w_gt rfl) (fun hc => v_cmp rfl (by first | exact gve hc rfl | exact gve (and_l hc) rfl | exact gve (and_l (and_l hc)) rfl | rfl) rfl rfl) ?_
        refine s_gval rfl rfl rfl (by first | exact w_ff rfl | exact w_gf rfl) (fun hc => v_and_g hc rfl rfl rfl rfl) ?_
        refine s_val rfl rfl (v_or rfl rfl rfl rfl) ?_
        refine wpList_nil ?_
        refine c_split rfl (fun hc89 => ?_) (fun hc89 => ?_)
        · skip
          try simp only [Bool.and_eq_true, Bool.or_eq_true, Bool.and_eq_false_iff, Bool.or_eq_false_iff, Bool.not_eq_true', Bool.not_eq_false', decide_eq_true_eq, decide_eq_false_iff_not, beq_iff_eq, beq_eq_false_iff_ne, bne_iff_ne, bne_eq_false_iff_eq, ne_eq, Classical.not_not] at hc89
          have hbd : pthBad x e := by
            unfold pthBad
            rcases hc89 with ((h | h) | h) | h
            · exact .inl fun hg => by rw [hp66.2 hg] at h; cases h
            · exact .inr (.inl (by omega))
            · exact .inr (.inr (.inl (by omega)))
            · exact .inr (.inr (.inr (by omega)))
          refine wp_seq ?_
          refine wp_region_lit ?_
          refine s_val rfl rfl (v_assign rfl rfl) ?_
          refine wpList_nil ?_
          refine wp_ret ?_
          refine ret_tmp Tryz.results14 rfl ?_
          refine ⟨cx.ext, _, rfl, ?_⟩
          show (21 : Int) = chkX x
          rw [chkX_e hh hce]
          exact (entsE_at he hpast (entE_21 hbd) (by decide)).symm
        · skip
          try simp only [Bool.and_eq_true, Bool.or_eq_true, Bool.and_eq_false_iff, Bool.or_eq_false_iff, Bool.not_eq_true', Bool.not_eq_false', decide_eq_true_eq, decide_eq_false_iff_not, beq_iff_eq, beq_eq_false_iff_ne, bne_iff_ne, bne_eq_false_iff_eq, ne_eq, Classical.not_not] at hc89
          have hgd : GdP e.path := hp66.1 hc89.1.1.1
          have hnb : ¬ pthBad x e := by
            unfold pthBad
            rintro (h | h)
            · exact h hgd
            · omega
          obtain ⟨pv, hpv⟩ : ∃ pv : Ent, 0 < i → x.ents[i - 1]? = some pv ∧ lastF (x.ents.take i) = pv.fr := by
            rcases Nat.eq_zero_or_pos i with h | h
            · exact ⟨e, fun h' => by omega⟩
            · have h1 : x.ents[i - 1]? = some (x.ents[i - 1]'(by omega)) := List.getElem?_eq_getElem _
              refine ⟨_, fun _ => ⟨h1, ?_⟩⟩
              have := lastF_take h1
              rwa [show i - 1 + 1 = i by omega] at this
          obtain ⟨pp, hrpv⟩ : ∃ pp, 0 < i → RowAt w0 b (o + ((i : Int) - 1).toNat * 3) [pp, .int .i64 pv.fr, .int .i64 pv.to] := by
            rcases Nat.eq_zero_or_pos i with h | h
            · exact ⟨undef, fun h' => by omega⟩
            · obtain ⟨q, hq, _⟩ := hr (i - 1) pv (hpv h).1
              refine ⟨q, fun _ => ?_⟩
              rw [show ((i : Int) - 1).toNat = i - 1 by omega]
              exact hq
          have hl0 := hpast.last (by omega)
          have hlz : i = 0 → lastF (x.ents.take i) = 0 := by rintro rfl; rfl
          refine wp_skip ?_
          refine wp_seq ?_
          refine wp_seq ?_
          refine w_quiet cx mixed (by kernel_rfl) ?_
          skip
          refine q_val rfl rfl (fun w cx hwQ => v_fa fa35_3 rfl hs1) ?_
          refine q_val rfl rfl (fun w cx hwQ => v_load1 rfl rfl Tryz.underlying32 rfl (cx.cell 0 rfl rfl)) ?_
          refine q_val rfl rfl (fun w cx hwQ => v_move rfl hs4) ?_
          refine q_val rfl rfl (fun w cx hwQ => v_ia Tryz.underlying32 sz52 rfl rfl rfl (by omega) (by omega)) ?_
          refine q_val rfl rfl (fun w cx hwQ => v_fa fa52_1 rfl rfl) ?_
          refine q_val rfl rfl (fun w cx hwQ => v_load rfl rfl Tryz.underlying48 rfl sz48 (l := [.int .i64 e.fr, .int .i64 e.to]) ((hrw.up cx.ext).sub 1 rfl) rfl) ?_
          refine q_val rfl rfl (fun w cx hwQ => v_fa fa35_1 rfl hs1) ?_
          refine q_val rfl rfl (fun w cx hwQ => v_load1 rfl rfl Tryz.underlying3 rfl (cx.cell 0 rfl rfl)) ?_
          refine q_call (v := .bool (spanB _ _ _)) rfl rfl (runs_fn Tryz.func43 rfl rfl rfl (cons_eq rfl (cons_eq rfl rfl))) (fun w cx hwQ => c43e _ _ _ _) ?_
          refine q_val rfl rfl (fun w cx hwQ => v_not rfl rfl) ?_
          refine q_val rfl rfl (fun w cx hwQ => v_move rfl rfl) ?_
          refine q_gval rfl rfl rfl (by first | exact w_ff rfl | exact w_gf rfl) (fun hc w cx hwQ => v_move rfl hs4) ?_
          refine q_gval rfl rfl rfl (by first | exact w_ff rfl | exact w_gf rfl) (fun hc w cx hwQ => v_cmp rfl (by first | exact gve hc rfl | exact gve (and_l hc) rfl | exact gve (and_l (and_l hc)) rfl | rfl) rfl rfl) ?_
          refine q_gval rfl rfl rfl (by first | exact w_ff rfl | exact w_gf rfl) (fun hc w cx hwQ => v_move rfl (by first | exact gve hc rfl | exact gve (and_l hc) rfl | exact gve (and_l (and_l hc)) rfl | rfl)) ?_
          refine q_gval rfl rfl rfl (by first | exact w_tt rfl | exact w_gt rfl) (fun hc w cx hwQ => v_fa fa35_3 rfl hs1) ?_
          refine q_gval rfl rfl rfl (by first | exact w_tt rfl | exact w_gt rfl) (fun hc w cx hwQ => v_load1 rfl (by first | exact gve hc rfl | exact gve (and_l hc) rfl | exact gve (and_l (and_l hc)) rfl | rfl) Tryz.underlying32 rfl (cx.cell 0 rfl rfl)) ?_
          refine q_gval rfl rfl rfl (by first | exact w_tt rfl | exact w_gt rfl) (fun hc w cx hwQ => v_move rfl hs4) ?_
          refine q_gval rfl rfl rfl (by first | exact w_tt rfl | exact w_gt rfl) (fun hc w cx hwQ => v_ia Tryz.underlying32 sz52 rfl (by first | exact gve hc rfl | exact gve (and_l hc) rfl | exact gve (and_l (and_l hc)) rfl | rfl) (by first | exact gve hc rfl | exact gve (and_l hc) rfl | exact gve (and_l (and_l hc)) rfl | rfl) (by first | omega | (simp only [Bool.and_eq_true, Bool.or_eq_true, Bool.and_eq_false_iff, Bool.or_eq_false_iff, Bool.not_eq_true', Bool.not_eq_false', decide_eq_true_eq, decide_eq_false_iff_not, beq_iff_eq, beq_eq_false_iff_ne, bne_iff_ne, bne_eq_false_iff_eq, ne_eq, Classical.not_not] at hc; omega)) (by first | omega | (simp only [Bool.and_eq_true, Bool.or_eq_true, Bool.and_eq_false_iff, Bool.or_eq_false_iff, Bool.not_eq_true', Bool.not_eq_false', decide_eq_true_eq, decide_eq_false_iff_not, beq_iff_eq, beq_eq_false_iff_ne, bne_iff_ne, bne_eq_false_iff_eq, ne_eq, Classical.not_not] at hc; omega))) ?_
          refine q_gval rfl rfl rfl (by first | exact w_tt rfl | exact w_gt rfl) (fun hc w cx hwQ => v_fa fa52_1 rfl (by first | exact gve hc rfl | exact gve (and_l hc) rfl | exact gve (and_l (and_l hc)) rfl | rfl)) ?_
          refine q_gval rfl rfl rfl (by first | exact w_tt rfl | exact w_gt rfl) (fun hc w cx hwQ => v_fa fa48_0 rfl (by first | exact gve hc rfl | exact gve (and_l hc) rfl | exact gve (and_l (and_l hc)) rfl | rfl)) ?_
          refine q_gval rfl rfl rfl (by first | exact w_tt rfl | exact w_gt rfl) (fun hc w cx hwQ => v_load1 rfl (by first | exact gve hc rfl | exact gve (and_l hc) rfl | exact gve (and_l (and_l hc)) rfl | rfl) Tryz.underlying3 rfl ((hrw.up cx.ext).cell 1 rfl)) ?_
          refine q_gval rfl rfl rfl (by first | exact w_tt rfl | exact w_gt rfl) (fun hc w cx hwQ => v_fa fa35_3 rfl hs1) ?_
          refine q_gval rfl rfl rfl (by first | exact w_tt rfl | exact w_gt rfl) (fun hc w cx hwQ => v_load1 rfl (by first | exact gve hc rfl | exact gve (and_l hc) rfl | exact gve (and_l (and_l hc)) rfl | rfl) Tryz.underlying32 rfl (cx.cell 0 rfl rfl)) ?_
          refine q_gval rfl rfl rfl (by first | exact w_tt rfl | exact w_gt rfl) (fun hc w cx hwQ => v_move rfl hs4) ?_
          refine q_gval rfl rfl rfl (by first | exact w_tt rfl | exact w_gt rfl) (fun hc w cx hwQ => v_sub rfl (by first | exact gve hc rfl | exact gve (and_l hc) rfl | exact gve (and_l (and_l hc)) rfl | rfl) rfl (by first | omega | (simp only [Bool.and_eq_true, Bool.or_eq_true, Bool.and_eq_false_iff, Bool.or_eq_false_iff, Bool.not_eq_true', Bool.not_eq_false', decide_eq_true_eq, decide_eq_false_iff_not, beq_iff_eq, beq_eq_false_iff_ne, bne_iff_ne, bne_eq_false_iff_eq, ne_eq, Classical.not_not] at hc; omega)) (by first | omega | (simp only [Bool.and_eq_true, Bool.or_eq_true, Bool.and_eq_false_iff, Bool.or_eq_false_iff, Bool.not_eq_true', Bool.not_eq_false', decide_eq_true_eq, decide_eq_false_iff_not, beq_iff_eq, beq_eq_false_iff_ne, bne_iff_ne, bne_eq_false_iff_eq, ne_eq, Classical.not_not] at hc; omega))) ?_
          refine q_gval rfl rfl rfl (by first | exact w_tt rfl | exact w_gt rfl) (fun hc w cx hwQ => v_ia Tryz.underlying32 sz52 rfl (by first | exact gve hc rfl | exact gve (and_l hc) rfl | exact gve (and_l (and_l hc)) rfl | rfl) (by first | exact gve hc rfl | exact gve (and_l hc) rfl | exact gve (and_l (and_l hc)) rfl | rfl) (by first | omega | (simp only [Bool.and_eq_true, Bool.or_eq_true, Bool.and_eq_false_iff, Bool.or_eq_false_iff, Bool.not_eq_true', Bool.not_eq_false', decide_eq_true_eq, decide_eq_false_iff_not, beq_iff_eq, beq_eq_false_iff_ne, bne_iff_ne, bne_eq_false_iff_eq, ne_eq, Classical.not_not] at hc; omega)) (by first | omega | (simp only [Bool.and_eq_true, Bool.or_eq_true, Bool.and_eq_false_iff, Bool.or_eq_false_iff, Bool.not_eq_true', Bool.not_eq_false', decide_eq_true_eq, decide_eq_false_iff_not, beq_iff_eq, beq_eq_false_iff_ne, bne_iff_ne, bne_eq_false_iff_eq, ne_eq, Classical.not_not] at hc; omega))) ?_
          refine q_gval rfl rfl rfl (by first | exact w_tt rfl | exact w_gt rfl) (fun hc w cx hwQ => v_fa fa52_1 rfl (by first | exact gve hc rfl | exact gve (and_l hc) rfl | exact gve (and_l (and_l hc)) rfl | rfl)) ?_
          refine q_gval rfl rfl rfl (by first | exact w_tt rfl | exact w_gt rfl) (fun hc w cx hwQ => v_fa fa48_0 rfl (by first | exact gve hc rfl | exact gve (and_l hc) rfl | exact gve (and_l (and_l hc)) rfl | rfl)) ?_
          refine q_gval rfl rfl rfl (by first | exact w_tt rfl | exact w_gt rfl) (fun hc w cx hwQ => v_load1 rfl (by first | exact gve hc rfl | exact gve (and_l hc) rfl | exact gve (and_l (and_l hc)) rfl | rfl) Tryz.underlying3 rfl (((hrpv (by simp only [Bool.and_eq_true, Bool.or_eq_true, Bool.and_eq_false_iff, Bool.or_eq_false_iff, Bool.not_eq_true', Bool.not_eq_false', decide_eq_true_eq, decide_eq_false_iff_not, beq_iff_eq, beq_eq_false_iff_ne, bne_iff_ne, bne_eq_false_iff_eq, ne_eq, Classical.not_not] at hc; omega)).up cx.ext).cell 1 rfl)) ?_
          refine q_gval rfl rfl rfl (by first | exact w_tt rfl | exact w_gt rfl) (fun hc w cx hwQ => v_cmp rfl (by first | exact gve hc rfl | exact gve (and_l hc) rfl | exact gve (and_l (and_l hc)) rfl | rfl) (by first | exact gve hc rfl | exact gve (and_l hc) rfl | exact gve (and_l (and_l hc)) rfl | rfl) rfl) ?_
          refine q_gval rfl rfl rfl (by first | exact w_ff rfl | exact w_gf rfl) (fun hc w cx hwQ => v_and_g hc rfl rfl rfl rfl) ?_
          refine q_val rfl rfl (fun w cx hwQ => v_or rfl rfl rfl rfl) ?_
          refine q_nil ?_; rintro w ⟨cx, hwQ12⟩
          refine c_split rfl (fun hc121 => ?_) (fun hc121 => ?_)
          · skip
            try simp only [Bool.and_eq_true, Bool.or_eq_true, Bool.and_eq_false_iff, Bool.or_eq_false_iff, Bool.not_eq_true', Bool.not_eq_false', decide_eq_true_eq, decide_eq_false_iff_not, beq_iff_eq, beq_eq_false_iff_ne, bne_iff_ne, bne_eq_false_iff_eq, ne_eq, Classical.not_not] at hc121
            simp only [spanB_F, spanB_T] at hc121
            have hbr : rngBad x (x.ents.take i) e := by
              unfold rngBad
              rcases Nat.eq_zero_or_pos i with h | h
              · have := hlz h; omega
              · have := (hpv h).2; omega
            refine wp_seq ?_
            refine wp_region_lit ?_
            refine s_val rfl rfl (v_assign rfl rfl) ?_
            refine wpList_nil ?_
            refine wp_ret ?_
            refine ret_tmp Tryz.results14 rfl ?_
            refine ⟨cx.ext, _, rfl, ?_⟩
            show (2 : Int) = chkX x
            rw [chkX_e hh hce]
            exact (entsE_at he hpast (entE_2 hnb hbr) (by decide)).symm
          · skip
            try simp only [Bool.and_eq_true, Bool.or_eq_true, Bool.and_eq_false_iff, Bool.or_eq_false_iff, Bool.not_eq_true', Bool.not_eq_false', decide_eq_true_eq, decide_eq_false_iff_not, beq_iff_eq, beq_eq_false_iff_ne, bne_iff_ne, bne_eq_false_iff_eq, ne_eq, Classical.not_not] at hc121
            simp only [spanB_F, spanB_T] at hc121
            have hnr : ¬ rngBad x (x.ents.take i) e := by
              unfold rngBad
              rcases Nat.eq_zero_or_pos i with h | h
              · have := hlz h; omega
              · have := (hpv h).2; omega
            refine wp_skip ?_
            refine wp_seq ?_
            refine wp_region_lit ?_
            refine s_val rfl rfl (v_assign rfl rfl) ?_
            refine wpList_nil ?_
            refine wp_block ?_
            refine w_loop (fun k f w1 => ∃ (j b1 : Nat), k + j = i ∧ f 1 = .pointer (some ⟨b1, 0, none⟩) ∧ f 4 = .int .i64 i ∧ f 5 = .slice pa e.path.length pc ∧ f 6 = .int .i64 j ∧ (∀ (n : Nat) y, n < j → x.ents[n]? = some y → y.path ≠ e.path) ∧ Ctx w0 w1 [(b1, .cells ([.int .i64 x.fmt, .int .i64 x.size, .int .i64 x.depth, .slice (some ⟨b, o, none⟩) x.ents.length c, .slice a2 x.cols.length c2] : List Value).toArray 35)]) (i) ?_ ?_
            · skip
              exact ⟨0, b1, by omega, hs1, hs4, rfl, rfl, fun n y h => by omega, cx⟩
            intro gk15 f w hJ
            obtain ⟨j, b1, hkj, hs1, hs4, hs5, hs6, hne, cx⟩ := hJ
            refine wp_seq ?_
            refine wp_seq ?_
            refine wp_region_lit ?_
            refine s_val rfl rfl (v_move rfl hs6) ?_
            refine s_val rfl rfl (v_move rfl hs4) ?_
            refine s_val rfl rfl (v_cmp rfl rfl rfl rfl) ?_
            refine wpList_nil ?_
            refine c_split rfl (fun hc124 => ?_) (fun hc124 => ?_)
            · skip
              try simp only [Bool.and_eq_true, Bool.or_eq_true, Bool.and_eq_false_iff, Bool.or_eq_false_iff, Bool.not_eq_true', Bool.not_eq_false', decide_eq_true_eq, decide_eq_false_iff_not, beq_iff_eq, beq_eq_false_iff_ne, bne_iff_ne, bne_eq_false_iff_eq, ne_eq, Classical.not_not] at hc124
              obtain ⟨y, hy⟩ : ∃ y, x.ents[j]? = some y := ⟨x.ents[j]'(by omega), List.getElem?_eq_getElem _⟩
              obtain ⟨p2, hrw2, hp2⟩ := hr j y hy
              have hpl2 := hs.pl y (List.mem_of_getElem? hy)
              refine wp_skip ?_
              refine wp_seq ?_
              refine wp_block ?_
              refine wp_seq ?_
              refine wp_region_lit ?_
              refine s_val rfl rfl (v_fa fa35_3 rfl hs1) ?_
              refine s_val rfl rfl (v_load1 rfl rfl Tryz.underlying32 rfl (cx.cell 0 rfl rfl)) ?_
              refine s_val rfl rfl (v_move rfl hs6) ?_
              refine s_val rfl rfl (v_ia Tryz.underlying32 sz52 rfl rfl rfl (by omega) (by omega)) ?_
              refine s_val rfl rfl (v_fa fa52_0 rfl rfl) ?_
              refine s_val rfl rfl (v_load1 rfl rfl Tryz.underlying28 rfl ((hrw2.up cx.ext).cell 0 rfl)) ?_
              refine s_val rfl rfl (v_move rfl hs5) ?_
              refine s_fnB cx (c20 _ _ _ _ _ (hp2.up cx.ext) (hp.up cx.ext) (by omega) (by omega)) Tryz.func20 rfl rfl rfl rfl rfl rfl ?_; intro q134 w cx hw134 hp134
              refine wpList_nil ?_
              refine c_split rfl (fun hc134 => ?_) (fun hc134 => ?_)
              · skip
                try simp only [Bool.and_eq_true, Bool.or_eq_true, Bool.and_eq_false_iff, Bool.or_eq_false_iff, Bool.not_eq_true', Bool.not_eq_false', decide_eq_true_eq, decide_eq_false_iff_not, beq_iff_eq, beq_eq_false_iff_ne, bne_iff_ne, bne_eq_false_iff_eq, ne_eq, Classical.not_not] at hc134
                refine wp_seq ?_
                refine wp_region_lit ?_
                refine s_val rfl rfl (v_assign rfl rfl) ?_
                refine wpList_nil ?_
                refine wp_ret ?_
                refine ret_tmp Tryz.results14 rfl ?_
                refine ⟨cx.ext, _, rfl, ?_⟩
                show (8 : Int) = chkX x
                rw [chkX_e hh hce]
                exact (entsE_at he hpast (entE_8 hnb hnr ⟨y, mem_take (by omega) hy, hp134.1 hc134⟩) (by decide)).symm
              · skip
                try simp only [Bool.and_eq_true, Bool.or_eq_true, Bool.and_eq_false_iff, Bool.or_eq_false_iff, Bool.not_eq_true', Bool.not_eq_false', decide_eq_true_eq, decide_eq_false_iff_not, beq_iff_eq, beq_eq_false_iff_ne, bne_iff_ne, bne_eq_false_iff_eq, ne_eq, Classical.not_not] at hc134
                refine wp_skip ?_
                refine wp_region_lit ?_
                refine s_val rfl rfl (v_move rfl hs6) ?_
                refine s_val rfl rfl (v_add rfl rfl rfl (by omega) (by omega)) ?_
                refine s_val rfl rfl (v_assign rfl rfl) ?_
                refine wpList_nil ?_
                refine ⟨gk15 - 1, _, by omega, rfl, j + 1, b1, by omega, hs1, hs4, hs5, rfl, fun n z hn hz hq => ?_, cx⟩
                rcases Nat.lt_or_ge n j with h | h
                · exact hne n z h hz hq
                · obtain rfl : n = j := by omega
                  rw [hy] at hz; cases hz
                  rw [hp134.2 hq] at hc134; cases hc134
            · skip
              try simp only [Bool.and_eq_true, Bool.or_eq_true, Bool.and_eq_false_iff, Bool.or_eq_false_iff, Bool.not_eq_true', Bool.not_eq_false', decide_eq_true_eq, decide_eq_false_iff_not, beq_iff_eq, beq_eq_false_iff_ne, bne_iff_ne, bne_eq_false_iff_eq, ne_eq, Classical.not_not] at hc124
              refine wp_exit ?_
              refine wp_region_lit ?_
              refine s_val rfl rfl (v_move rfl hs4) ?_
              refine s_val rfl rfl (v_add rfl rfl rfl (by omega) (by omega)) ?_
              refine s_val rfl rfl (v_assign rfl rfl) ?_
              refine wpList_nil ?_
              have h0 : entE x (x.ents.take i) e = 0 := entE_0 hnb hnr (by
                rintro ⟨y, hm, hy⟩
                obtain ⟨n, hn⟩ := List.getElem?_of_mem hm
                rw [List.getElem?_take] at hn
                split at hn
                · exact hne n y (by omega) hn hy
                · cases hn)
              refine ⟨gk7 - 1, _, by omega, rfl, i + 1, b1, by omega, hs1, rfl, hpast.succ he h0, cx⟩
      · skip
        try simp only [Bool.and_eq_true, Bool.or_eq_true, Bool.and_eq_false_iff, Bool.or_eq_false_iff, Bool.not_eq_true', Bool.not_eq_false', decide_eq_true_eq, decide_eq_false_iff_not, beq_iff_eq, beq_eq_false_iff_ne, bne_iff_ne, bne_eq_false_iff_eq, ne_eq, Classical.not_not] at hc56
        refine wp_exit ?_
        refine wp_seq ?_
        refine wp_region_lit ?_
        refine s_val rfl rfl (v_assign rfl rfl) ?_
        refine wpList_nil ?_
        refine wp_ret ?_
        refine ret_tmp Tryz.results14 rfl ?_
        refine ⟨cx.ext, _, rfl, ?_⟩
        show (0 : Int) = chkX x
        rw [chkX_e hh hce]
        exact (entsE_end fun j e hj he => hpast j e (by omega) he).symm

end Go.Proofs.YthiafbkolhnadaaGreatDoor
