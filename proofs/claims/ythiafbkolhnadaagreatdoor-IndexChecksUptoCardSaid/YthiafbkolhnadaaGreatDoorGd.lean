/-
  When a path is valid.
-/
import Derived.Test.YthiafbkolhnadaaGreatDoorGb
import Derived.Test.YthiafbkolhnadaaGreatDoorGc
import Derived.Test.YthiafbkolhnadaaGreatDoorPx
set_option linter.unusedSimpArgs false
set_option linter.unusedVariables false
namespace Go.Proofs.YthiafbkolhnadaaGreatDoor
open Go Go.Dk Go.RowKit Go.Lib
attribute [local irreducible] Go.wpList Go.Code.wp Go.bodyPost Go.wpStill
set_option maxRecDepth 10000 in
theorem c15 (v : Value) (l : List Stp) (w0 : World) (hv : Pth w0 v l) (hl : l.length ≤ 140737488355328) : Fc Tryz.prog 15 [v] w0 (IsB fun b => b = true ↔ GdP l) := by
  obtain ⟨a, c, b, o, rfl, ha, hr⟩ := hv.form
  refine ret_enter Tryz.func15 rfl Tryz.ntmps15 rfl ?_
  have cx := Ctx.start w0
  refine wp_seq ?_
  refine wp_region_lit ?_
  refine s_val rfl rfl (v_assign rfl rfl) ?_
  refine wpList_nil ?_
  refine wp_seq ?_
  refine wp_seq ?_
  refine wp_region_lit ?_
  refine s_val rfl rfl (v_move rfl rfl) ?_
  refine s_val rfl rfl (v_lenSlice rfl rfl Tryz.underlying28) ?_
  refine s_val rfl rfl (v_cmp rfl rfl rfl rfl) ?_
  refine wpList_nil ?_
  refine c_split rfl (fun hc6 => ?_) (fun hc6 => ?_)
  · skip
    try simp only [Bool.and_eq_true, Bool.or_eq_true, Bool.and_eq_false_iff, Bool.or_eq_false_iff, Bool.not_eq_true', Bool.not_eq_false', decide_eq_true_eq, decide_eq_false_iff_not, beq_iff_eq, beq_eq_false_iff_ne, bne_iff_ne, bne_eq_false_iff_eq, ne_eq, Classical.not_not] at hc6
    refine wp_seq ?_
    refine wp_region_lit ?_
    refine s_val rfl rfl (v_assign rfl rfl) ?_
    refine wpList_nil ?_
    refine wp_ret ?_
    refine ret_tmp Tryz.results15 rfl ?_
    refine ⟨cx.ext, _, rfl, (fun h => by cases h), fun h => ?_⟩
    have := h.1
    omega
  · skip
    try simp only [Bool.and_eq_true, Bool.or_eq_true, Bool.and_eq_false_iff, Bool.or_eq_false_iff, Bool.not_eq_true', Bool.not_eq_false', decide_eq_true_eq, decide_eq_false_iff_not, beq_iff_eq, beq_eq_false_iff_ne, bne_iff_ne, bne_eq_false_iff_eq, ne_eq, Classical.not_not] at hc6
    refine wp_skip ?_
    refine wp_seq ?_
    refine wp_seq ?_
    refine wp_region_lit ?_
    refine s_val rfl rfl (v_assign rfl rfl) ?_
    refine wpList_nil ?_
    refine wp_block ?_
    refine w_loop (fun k f w1 => ∃ i : Nat, k + i = l.length ∧ f 0 = .slice a l.length c ∧ f 3 = .int .i64 i ∧ (∀ x ∈ l.take i, Stv x) ∧ Ctx w0 w1 []) (l.length) ?_ ?_
    · skip
      exact ⟨0, by omega, rfl, rfl, by simp, cx⟩
    intro gk4 f w hJ
    obtain ⟨i, hk, hs0, hs3, hall, cx⟩ := hJ
    refine wp_seq ?_
    refine wp_seq ?_
    refine wp_region_lit ?_
    refine s_val rfl rfl (v_move rfl hs3) ?_
    refine s_val rfl rfl (v_move rfl hs0) ?_
    refine s_val rfl rfl (v_lenSlice rfl rfl Tryz.underlying28) ?_
    refine s_val rfl rfl (v_cmp rfl rfl rfl rfl) ?_
    refine wpList_nil ?_
    refine c_split rfl (fun hc10 => ?_) (fun hc10 => ?_)
    · skip
      try simp only [Bool.and_eq_true, Bool.or_eq_true, Bool.and_eq_false_iff, Bool.or_eq_false_iff, Bool.not_eq_true', Bool.not_eq_false', decide_eq_true_eq, decide_eq_false_iff_not, beq_iff_eq, beq_eq_false_iff_ne, bne_iff_ne, bne_eq_false_iff_eq, ne_eq, Classical.not_not] at hc10
      obtain ⟨x, hx⟩ : ∃ x, l[i]? = some x := ⟨l[i]'(by omega), List.getElem?_eq_getElem _⟩
      have hrw := hr i x hx
      obtain rfl := ha (by omega)
      refine wp_skip ?_
      refine wp_seq ?_
      refine wp_block ?_
      refine wp_seq ?_
      refine wp_seq ?_
      refine wp_region_lit ?_
      refine s_val rfl rfl (v_move rfl hs0) ?_
      refine s_val rfl rfl (v_move rfl hs3) ?_
      refine s_val rfl rfl (v_ia Tryz.underlying28 sz107 rfl rfl rfl (by omega) (by omega)) ?_
      refine s_val rfl rfl (v_fa fa107_0 rfl rfl) ?_
      refine s_val rfl rfl (v_load1 rfl rfl Tryz.underlying4 rfl ((hrw.up cx.ext).cell 0 rfl)) ?_
      refine s_val rfl rfl (v_move rfl rfl) ?_
      refine s_gval rfl rfl rfl (by first | exact w_tt rfl | exact w_gt rfl) (fun hc => v_move rfl hs0) ?_
      refine s_gval rfl rfl rfl (by first | exact w_tt rfl | exact w_gt rfl) (fun hc => v_move rfl hs3) ?_
      refine s_gval rfl rfl rfl (by first | exact w_tt rfl | exact w_gt rfl) (fun hc => v_ia Tryz.underlying28 sz107 rfl (by first | exact gve hc rfl | exact gve (and_l hc) rfl | exact gve (and_l (and_l hc)) rfl | rfl) (by first | exact gve hc rfl | exact gve (and_l hc) rfl | exact gve (and_l (and_l hc)) rfl | rfl) (by first | omega | (simp only [Bool.and_eq_true, Bool.or_eq_true, Bool.and_eq_false_iff, Bool.or_eq_false_iff, Bool.not_eq_true', Bool.not_eq_false', decide_eq_true_eq, decide_eq_false_iff_not, beq_iff_eq, beq_eq_false_iff_ne, bne_iff_ne, bne_eq_false_iff_eq, ne_eq, Classical.not_not] at hc; omega)) (by first | omega | (simp only [Bool.and_eq_true, Bool.or_eq_true, Bool.and_eq_false_iff, Bool.or_eq_false_iff, Bool.not_eq_true', Bool.not_eq_false', decide_eq_true_eq, decide_eq_false_iff_not, beq_iff_eq, beq_eq_false_iff_ne, bne_iff_ne, bne_eq_false_iff_eq, ne_eq, Classical.not_not] at hc; omega))) ?_
      refine s_gval rfl rfl rfl (by first | exact w_tt rfl | exact w_gt rfl) (fun hc => v_fa fa107_1 rfl (by first | exact gve hc rfl | exact gve (and_l hc) rfl | exact gve (and_l (and_l hc)) rfl | rfl)) ?_
      refine s_gval rfl rfl rfl (by first | exact w_tt rfl | exact w_gt rfl) (fun hc => v_load1 rfl (by first | exact gve hc rfl | exact gve (and_l hc) rfl | exact gve (and_l (and_l hc)) rfl | rfl) Tryz.underlying9 rfl ((hrw.up cx.ext).cell 1 rfl)) ?_
      refine s_gval rfl rfl rfl (by first | exact w_tt rfl | exact w_gt rfl) (fun hc => v_strNe rfl (by first | exact gve hc rfl | exact gve (and_l hc) rfl | exact gve (and_l (and_l hc)) rfl | rfl) rfl) ?_
      refine s_gval rfl rfl rfl (by first | exact w_tt rfl | exact w_gt rfl) (fun hc => v_move rfl (by first | exact gve hc rfl | exact gve (and_l hc) rfl | exact gve (and_l (and_l hc)) rfl | rfl)) ?_
      refine s_gval rfl rfl rfl (by first | exact w_ff rfl | exact w_gf rfl) (fun hc => v_move rfl hs0) ?_
      refine s_gval rfl rfl rfl (by first | exact w_ff rfl | exact w_gf rfl) (fun hc => v_move rfl hs3) ?_
      refine s_gval rfl rfl rfl (by first | exact w_ff rfl | exact w_gf rfl) (fun hc => v_ia Tryz.underlying28 sz107 rfl (by first | exact gve hc rfl | exact gve (and_l hc) rfl | exact gve (and_l (and_l hc)) rfl | rfl) (by first | exact gve hc rfl | exact gve (and_l hc) rfl | exact gve (and_l (and_l hc)) rfl | rfl) (by first | omega | (simp only [Bool.and_eq_true, Bool.or_eq_true, Bool.and_eq_false_iff, Bool.or_eq_false_iff, Bool.not_eq_true', Bool.not_eq_false', decide_eq_true_eq, decide_eq_false_iff_not, beq_iff_eq, beq_eq_false_iff_ne, bne_iff_ne, bne_eq_false_iff_eq, ne_eq, Classical.not_not] at hc; omega)) (by first | omega | (simp only [Bool.and_eq_true, Bool.or_eq_true, Bool.and_eq_false_iff, Bool.or_eq_false_iff, Bool.not_eq_true', Bool.not_eq_false', decide_eq_true_eq, decide_eq_false_iff_not, beq_iff_eq, beq_eq_false_iff_ne, bne_iff_ne, bne_eq_false_iff_eq, ne_eq, Classical.not_not] at hc; omega))) ?_
      refine s_gval rfl rfl rfl (by first | exact w_ff rfl | exact w_gf rfl) (fun hc => v_fa fa107_2 rfl (by first | exact gve hc rfl | exact gve (and_l hc) rfl | exact gve (and_l (and_l hc)) rfl | rfl)) ?_
      refine s_gval rfl rfl rfl (by first | exact w_ff rfl | exact w_gf rfl) (fun hc => v_load1 rfl (by first | exact gve hc rfl | exact gve (and_l hc) rfl | exact gve (and_l (and_l hc)) rfl | rfl) Tryz.underlying3 rfl ((hrw.up cx.ext).cell 2 rfl)) ?_
      refine s_gval rfl rfl rfl (by first | exact w_ff rfl | exact w_gf rfl) (fun hc => v_cmp rfl (by first | exact gve hc rfl | exact gve (and_l hc) rfl | exact gve (and_l (and_l hc)) rfl | rfl) rfl rfl) ?_
      refine s_gval rfl rfl rfl (by first | exact w_tt rfl | exact w_gt rfl) (fun hc => v_or_g hc rfl rfl rfl rfl) ?_
      refine s_gval rfl rfl rfl (by first | exact w_tt rfl | exact w_gt rfl) (fun hc => v_move rfl (by first | exact gve hc rfl | exact gve (and_l hc) rfl | exact gve (and_l (and_l hc)) rfl | rfl)) ?_
      refine s_gval rfl rfl rfl (by first | exact w_ff rfl | exact w_gf rfl) (fun hc => v_move rfl hs0) ?_
      refine s_gval rfl rfl rfl (by first | exact w_ff rfl | exact w_gf rfl) (fun hc => v_move rfl hs3) ?_
      refine s_gval rfl rfl rfl (by first | exact w_ff rfl | exact w_gf rfl) (fun hc => v_ia Tryz.underlying28 sz107 rfl (by first | exact gve hc rfl | exact gve (and_l hc) rfl | exact gve (and_l (and_l hc)) rfl | rfl) (by first | exact gve hc rfl | exact gve (and_l hc) rfl | exact gve (and_l (and_l hc)) rfl | rfl) (by first | omega | (simp only [Bool.and_eq_true, Bool.or_eq_true, Bool.and_eq_false_iff, Bool.or_eq_false_iff, Bool.not_eq_true', Bool.not_eq_false', decide_eq_true_eq, decide_eq_false_iff_not, beq_iff_eq, beq_eq_false_iff_ne, bne_iff_ne, bne_eq_false_iff_eq, ne_eq, Classical.not_not] at hc; omega)) (by first | omega | (simp only [Bool.and_eq_true, Bool.or_eq_true, Bool.and_eq_false_iff, Bool.or_eq_false_iff, Bool.not_eq_true', Bool.not_eq_false', decide_eq_true_eq, decide_eq_false_iff_not, beq_iff_eq, beq_eq_false_iff_ne, bne_iff_ne, bne_eq_false_iff_eq, ne_eq, Classical.not_not] at hc; omega))) ?_
      refine s_gval rfl rfl rfl (by first | exact w_ff rfl | exact w_gf rfl) (fun hc => v_fa fa107_2 rfl (by first | exact gve hc rfl | exact gve (and_l hc) rfl | exact gve (and_l (and_l hc)) rfl | rfl)) ?_
      refine s_gval rfl rfl rfl (by first | exact w_ff rfl | exact w_gf rfl) (fun hc => v_load1 rfl (by first | exact gve hc rfl | exact gve (and_l hc) rfl | exact gve (and_l (and_l hc)) rfl | rfl) Tryz.underlying3 rfl ((hrw.up cx.ext).cell 2 rfl)) ?_
      refine s_gval rfl rfl rfl (by first | exact w_ff rfl | exact w_gf rfl) (fun hc => v_cmp rfl (by first | exact gve hc rfl | exact gve (and_l hc) rfl | exact gve (and_l (and_l hc)) rfl | rfl) rfl rfl) ?_
      refine s_gval rfl rfl rfl (by first | exact w_tt rfl | exact w_gt rfl) (fun hc => v_or_g hc rfl rfl rfl rfl) ?_
      refine s_val rfl rfl (v_and rfl rfl rfl rfl) ?_
      refine wpList_nil ?_
      refine c_split rfl (fun hc41 => ?_) (fun hc41 => ?_)
      · skip
        try simp only [Bool.and_eq_true, Bool.or_eq_true, Bool.and_eq_false_iff, Bool.or_eq_false_iff, Bool.not_eq_true', Bool.not_eq_false', decide_eq_true_eq, decide_eq_false_iff_not, beq_iff_eq, beq_eq_false_iff_ne, bne_iff_ne, bne_eq_false_iff_eq, ne_eq, Classical.not_not] at hc41
        refine wp_seq ?_
        refine wp_region_lit ?_
        refine s_val rfl rfl (v_assign rfl rfl) ?_
        refine wpList_nil ?_
        refine wp_ret ?_
        refine ret_tmp Tryz.results15 rfl ?_
        refine ⟨cx.ext, _, rfl, (fun h => by cases h), fun h => ?_⟩
        exfalso
        have hx' := h.2 x (List.mem_of_getElem? hx)
        obtain ⟨h1, h2⟩ := hc41
        obtain ⟨h3, h4, h5⟩ := hx'.1 h1
        rcases h2 with (h2 | h2) | h2
        · exact h2 h3
        · omega
        · omega
      · skip
        try simp only [Bool.and_eq_true, Bool.or_eq_true, Bool.and_eq_false_iff, Bool.or_eq_false_iff, Bool.not_eq_true', Bool.not_eq_false', decide_eq_true_eq, decide_eq_false_iff_not, beq_iff_eq, beq_eq_false_iff_ne, bne_iff_ne, bne_eq_false_iff_eq, ne_eq, Classical.not_not] at hc41
        refine wp_skip ?_
        refine wp_seq ?_
        refine wp_region_lit ?_
        refine s_val rfl rfl (v_move rfl hs0) ?_
        refine s_val rfl rfl (v_move rfl hs3) ?_
        refine s_val rfl rfl (v_ia Tryz.underlying28 sz107 rfl rfl rfl (by omega) (by omega)) ?_
        refine s_val rfl rfl (v_fa fa107_0 rfl rfl) ?_
        refine s_val rfl rfl (v_load1 rfl rfl Tryz.underlying4 rfl ((hrw.up cx.ext).cell 0 rfl)) ?_
        refine s_val rfl rfl (v_not rfl rfl) ?_
        refine s_val rfl rfl (v_move rfl rfl) ?_
        refine s_gval rfl rfl rfl (by first | exact w_tt rfl | exact w_gt rfl) (fun hc => v_move rfl hs0) ?_
        refine s_gval rfl rfl rfl (by first | exact w_tt rfl | exact w_gt rfl) (fun hc => v_move rfl hs3) ?_
        refine s_gval rfl rfl rfl (by first | exact w_tt rfl | exact w_gt rfl) (fun hc => v_ia Tryz.underlying28 sz107 rfl (by first | exact gve hc rfl | exact gve (and_l hc) rfl | exact gve (and_l (and_l hc)) rfl | rfl) (by first | exact gve hc rfl | exact gve (and_l hc) rfl | exact gve (and_l (and_l hc)) rfl | rfl) (by first | omega | (simp only [Bool.and_eq_true, Bool.or_eq_true, Bool.and_eq_false_iff, Bool.or_eq_false_iff, Bool.not_eq_true', Bool.not_eq_false', decide_eq_true_eq, decide_eq_false_iff_not, beq_iff_eq, beq_eq_false_iff_ne, bne_iff_ne, bne_eq_false_iff_eq, ne_eq, Classical.not_not] at hc; omega)) (by first | omega | (simp only [Bool.and_eq_true, Bool.or_eq_true, Bool.and_eq_false_iff, Bool.or_eq_false_iff, Bool.not_eq_true', Bool.not_eq_false', decide_eq_true_eq, decide_eq_false_iff_not, beq_iff_eq, beq_eq_false_iff_ne, bne_iff_ne, bne_eq_false_iff_eq, ne_eq, Classical.not_not] at hc; omega))) ?_
        refine s_gval rfl rfl rfl (by first | exact w_tt rfl | exact w_gt rfl) (fun hc => v_fa fa107_2 rfl (by first | exact gve hc rfl | exact gve (and_l hc) rfl | exact gve (and_l (and_l hc)) rfl | rfl)) ?_
        refine s_gval rfl rfl rfl (by first | exact w_tt rfl | exact w_gt rfl) (fun hc => v_load1 rfl (by first | exact gve hc rfl | exact gve (and_l hc) rfl | exact gve (and_l (and_l hc)) rfl | rfl) Tryz.underlying3 rfl ((hrw.up cx.ext).cell 2 rfl)) ?_
        refine s_gval rfl rfl rfl (by first | exact w_tt rfl | exact w_gt rfl) (fun hc => v_cmp rfl (by first | exact gve hc rfl | exact gve (and_l hc) rfl | exact gve (and_l (and_l hc)) rfl | rfl) rfl rfl) ?_
        refine s_gval rfl rfl rfl (by first | exact w_tt rfl | exact w_gt rfl) (fun hc => v_move rfl (by first | exact gve hc rfl | exact gve (and_l hc) rfl | exact gve (and_l (and_l hc)) rfl | rfl)) ?_
        refine s_gval rfl rfl rfl (by first | exact w_ff rfl | exact w_gf rfl) (fun hc => v_move rfl hs0) ?_
        refine s_gval rfl rfl rfl (by first | exact w_ff rfl | exact w_gf rfl) (fun hc => v_move rfl hs3) ?_
        refine s_gval rfl rfl rfl (by first | exact w_ff rfl | exact w_gf rfl) (fun hc => v_ia Tryz.underlying28 sz107 rfl (by first | exact gve hc rfl | exact gve (and_l hc) rfl | exact gve (and_l (and_l hc)) rfl | rfl) (by first | exact gve hc rfl | exact gve (and_l hc) rfl | exact gve (and_l (and_l hc)) rfl | rfl) (by first | omega | (simp only [Bool.and_eq_true, Bool.or_eq_true, Bool.and_eq_false_iff, Bool.or_eq_false_iff, Bool.not_eq_true', Bool.not_eq_false', decide_eq_true_eq, decide_eq_false_iff_not, beq_iff_eq, beq_eq_false_iff_ne, bne_iff_ne, bne_eq_false_iff_eq, ne_eq, Classical.not_not] at hc; omega)) (by first | omega | (simp only [Bool.and_eq_true, Bool.or_eq_true, Bool.and_eq_false_iff, Bool.or_eq_false_iff, Bool.not_eq_true', Bool.not_eq_false', decide_eq_true_eq, decide_eq_false_iff_not, beq_iff_eq, beq_eq_false_iff_ne, bne_iff_ne, bne_eq_false_iff_eq, ne_eq, Classical.not_not] at hc; omega))) ?_
        refine s_gval rfl rfl rfl (by first | exact w_ff rfl | exact w_gf rfl) (fun hc => v_fa fa107_1 rfl (by first | exact gve hc rfl | exact gve (and_l hc) rfl | exact gve (and_l (and_l hc)) rfl | rfl)) ?_
        refine s_gval rfl rfl rfl (by first | exact w_ff rfl | exact w_gf rfl) (fun hc => v_load1 rfl (by first | exact gve hc rfl | exact gve (and_l hc) rfl | exact gve (and_l (and_l hc)) rfl | rfl) Tryz.underlying9 rfl ((hrw.up cx.ext).cell 1 rfl)) ?_
        refine s_gval rfl rfl rfl (by first | exact w_ff rfl | exact w_gf rfl) (fun hc => v_lenString rfl (by first | exact gve hc rfl | exact gve (and_l hc) rfl | exact gve (and_l (and_l hc)) rfl | rfl) Tryz.underlying9) ?_
        refine s_gval rfl rfl rfl (by first | exact w_ff rfl | exact w_gf rfl) (fun hc => v_cmp rfl (by first | exact gve hc rfl | exact gve (and_l hc) rfl | exact gve (and_l (and_l hc)) rfl | rfl) rfl rfl) ?_
        refine s_gval rfl rfl rfl (by first | exact w_tt rfl | exact w_gt rfl) (fun hc => v_or_g hc rfl rfl rfl rfl) ?_
        refine s_gval rfl rfl rfl (by first | exact w_tt rfl | exact w_gt rfl) (fun hc => v_move rfl (by first | exact gve hc rfl | exact gve (and_l hc) rfl | exact gve (and_l (and_l hc)) rfl | rfl)) ?_
        refine s_gval rfl rfl rfl (by first | exact w_ff rfl | exact w_gf rfl) (fun hc => v_move rfl hs0) ?_
        refine s_gval rfl rfl rfl (by first | exact w_ff rfl | exact w_gf rfl) (fun hc => v_move rfl hs3) ?_
        refine s_gval rfl rfl rfl (by first | exact w_ff rfl | exact w_gf rfl) (fun hc => v_ia Tryz.underlying28 sz107 rfl (by first | exact gve hc rfl | exact gve (and_l hc) rfl | exact gve (and_l (and_l hc)) rfl | rfl) (by first | exact gve hc rfl | exact gve (and_l hc) rfl | exact gve (and_l (and_l hc)) rfl | rfl) (by first | omega | (simp only [Bool.and_eq_true, Bool.or_eq_true, Bool.and_eq_false_iff, Bool.or_eq_false_iff, Bool.not_eq_true', Bool.not_eq_false', decide_eq_true_eq, decide_eq_false_iff_not, beq_iff_eq, beq_eq_false_iff_ne, bne_iff_ne, bne_eq_false_iff_eq, ne_eq, Classical.not_not] at hc; omega)) (by first | omega | (simp only [Bool.and_eq_true, Bool.or_eq_true, Bool.and_eq_false_iff, Bool.or_eq_false_iff, Bool.not_eq_true', Bool.not_eq_false', decide_eq_true_eq, decide_eq_false_iff_not, beq_iff_eq, beq_eq_false_iff_ne, bne_iff_ne, bne_eq_false_iff_eq, ne_eq, Classical.not_not] at hc; omega))) ?_
        refine s_gval rfl rfl rfl (by first | exact w_ff rfl | exact w_gf rfl) (fun hc => v_fa fa107_1 rfl (by first | exact gve hc rfl | exact gve (and_l hc) rfl | exact gve (and_l (and_l hc)) rfl | rfl)) ?_
        refine s_gval rfl rfl rfl (by first | exact w_ff rfl | exact w_gf rfl) (fun hc => v_load1 rfl (by first | exact gve hc rfl | exact gve (and_l hc) rfl | exact gve (and_l (and_l hc)) rfl | rfl) Tryz.underlying9 rfl ((hrw.up cx.ext).cell 1 rfl)) ?_
        refine s_gfnB cx rfl rfl rfl (by first | exact w_ff rfl | exact w_gf rfl) (fun hc => c44 x.key _ (by first | omega | (simp only [Bool.and_eq_true, Bool.or_eq_true, Bool.and_eq_false_iff, Bool.or_eq_false_iff, Bool.not_eq_true', Bool.not_eq_false', decide_eq_true_eq, decide_eq_false_iff_not, beq_iff_eq, beq_eq_false_iff_ne, bne_iff_ne, bne_eq_false_iff_eq, ne_eq, Classical.not_not] at hc; omega))) Tryz.func44 rfl rfl rfl (fun hc => (cons_eq (by first | exact gve hc rfl | exact gve (and_l hc) rfl | exact gve (and_l (and_l hc)) rfl | rfl) rfl)) ?_; intro q70 w cx hw70 hp70
        refine s_gval rfl rfl rfl (by first | exact w_ff rfl | exact w_gf rfl) (fun hc => v_not rfl (by first | exact gve hc rfl | exact gve (and_l hc) rfl | exact gve (and_l (and_l hc)) rfl | rfl)) ?_
        refine s_gval rfl rfl rfl (by first | exact w_tt rfl | exact w_gt rfl) (fun hc => v_or_g hc rfl rfl rfl rfl) ?_
        refine s_val rfl rfl (v_and rfl rfl rfl rfl) ?_
        refine wpList_nil ?_
        refine c_split rfl (fun hc73 => ?_) (fun hc73 => ?_)
        · skip
          try simp only [Bool.and_eq_true, Bool.or_eq_true, Bool.and_eq_false_iff, Bool.or_eq_false_iff, Bool.not_eq_true', Bool.not_eq_false', decide_eq_true_eq, decide_eq_false_iff_not, beq_iff_eq, beq_eq_false_iff_ne, bne_iff_ne, bne_eq_false_iff_eq, ne_eq, Classical.not_not] at hc73
          refine wp_seq ?_
          refine wp_region_lit ?_
          refine s_val rfl rfl (v_assign rfl rfl) ?_
          refine wpList_nil ?_
          refine wp_ret ?_
          refine ret_tmp Tryz.results15 rfl ?_
          refine ⟨cx.ext, _, rfl, (fun h => by cases h), fun h => ?_⟩
          exfalso
          have hx' := h.2 x (List.mem_of_getElem? hx)
          obtain ⟨h1, h2⟩ := hc73
          obtain ⟨h3, h4, h5⟩ := hx'.2 h1
          rcases h2 with (h2 | h2) | h2
          · exact h2 h3
          · omega
          · rw [hp70 (by first | (simp [h1, h3]; omega) | simp [h1, h3, h4]), h5] at h2
            cases h2
        · skip
          try simp only [Bool.and_eq_true, Bool.or_eq_true, Bool.and_eq_false_iff, Bool.or_eq_false_iff, Bool.not_eq_true', Bool.not_eq_false', decide_eq_true_eq, decide_eq_false_iff_not, beq_iff_eq, beq_eq_false_iff_ne, bne_iff_ne, bne_eq_false_iff_eq, ne_eq, Classical.not_not] at hc73
          refine wp_skip ?_
          refine wp_region_lit ?_
          refine s_val rfl rfl (v_move rfl hs3) ?_
          refine s_val rfl rfl (v_add rfl rfl rfl (by omega) (by omega)) ?_
          refine s_val rfl rfl (v_assign rfl rfl) ?_
          refine wpList_nil ?_
          refine ⟨gk4 - 1, _, by omega, rfl, i + 1, by omega, hs0, rfl, fun y hy => ?_, cx⟩
          obtain ⟨hi, e⟩ := List.getElem?_eq_some_iff.1 hx
          rw [List.take_succ_eq_append_getElem hi] at hy
          rcases List.mem_append.1 hy with hy | hy
          · exact hall y hy
          · rw [e] at hy
            obtain rfl := List.mem_singleton.1 hy
            refine ⟨fun h => ?_, fun h => ?_⟩
            · rcases hc41 with h1 | h1
              · rw [h] at h1; cases h1
              · exact ⟨h1.1.1, by omega, by omega⟩
            · rcases hc73 with h1 | h1
              · rw [h] at h1; cases h1
              · obtain ⟨⟨h2, h3⟩, h4⟩ := h1
                refine ⟨h2, by omega, ?_⟩
                rw [← hp70 (by first | (simp [h, h2]; omega) | simp [h, h2, h3])]
                exact h4
    · skip
      try simp only [Bool.and_eq_true, Bool.or_eq_true, Bool.and_eq_false_iff, Bool.or_eq_false_iff, Bool.not_eq_true', Bool.not_eq_false', decide_eq_true_eq, decide_eq_false_iff_not, beq_iff_eq, beq_eq_false_iff_ne, bne_iff_ne, bne_eq_false_iff_eq, ne_eq, Classical.not_not] at hc10
      refine wp_exit ?_
      refine wp_seq ?_
      refine wp_region_lit ?_
      refine s_val rfl rfl (v_assign rfl rfl) ?_
      refine wpList_nil ?_
      refine wp_ret ?_
      refine ret_tmp Tryz.results15 rfl ?_
      refine ⟨cx.ext, _, rfl, fun _ => ⟨by omega, ?_⟩, fun _ => rfl⟩
      have e : i = l.length := by omega
      subst e
      rw [List.take_length] at hall
      exact hall

set_option maxRecDepth 10000 in
theorem c40 (v : Value) (l : List Stp) (w0 : World) (hv : Pth w0 v l) (hl : l.length ≤ 140737488355328) : Fc Tryz.prog 40 [v] w0 (IsB fun b => b = true ↔ GdP l) := by
  obtain ⟨a, c, b, o, rfl, ha, hr⟩ := hv.form
  refine ret_enter Tryz.func40 rfl Tryz.ntmps40 rfl ?_
  have cx := Ctx.start w0
  refine wp_seq ?_
  refine wp_region_lit ?_
  refine s_val rfl rfl (v_assign rfl rfl) ?_
  refine wpList_nil ?_
  refine wp_seq ?_
  refine wp_seq ?_
  refine wp_region_lit ?_
  refine s_val rfl rfl (v_move rfl rfl) ?_
  refine s_val rfl rfl (v_lenSlice rfl rfl Tryz.underlying28) ?_
  refine s_val rfl rfl (v_cmp rfl rfl rfl rfl) ?_
  refine wpList_nil ?_
  refine c_split rfl (fun hc7 => ?_) (fun hc7 => ?_)
  · skip
    try simp only [Bool.and_eq_true, Bool.or_eq_true, Bool.and_eq_false_iff, Bool.or_eq_false_iff, Bool.not_eq_true', Bool.not_eq_false', decide_eq_true_eq, decide_eq_false_iff_not, beq_iff_eq, beq_eq_false_iff_ne, bne_iff_ne, bne_eq_false_iff_eq, ne_eq, Classical.not_not] at hc7
    refine wp_seq ?_
    refine wp_region_lit ?_
    refine s_val rfl rfl (v_assign rfl rfl) ?_
    refine wpList_nil ?_
    refine wp_ret ?_
    refine ret_tmp Tryz.results40 rfl ?_
    refine ⟨cx.ext, _, rfl, (fun h => by cases h), fun h => ?_⟩
    have := h.1
    omega
  · skip
    try simp only [Bool.and_eq_true, Bool.or_eq_true, Bool.and_eq_false_iff, Bool.or_eq_false_iff, Bool.not_eq_true', Bool.not_eq_false', decide_eq_true_eq, decide_eq_false_iff_not, beq_iff_eq, beq_eq_false_iff_ne, bne_iff_ne, bne_eq_false_iff_eq, ne_eq, Classical.not_not] at hc7
    refine wp_skip ?_
    refine wp_seq ?_
    refine wp_seq ?_
    refine wp_region_lit ?_
    refine s_val rfl rfl (v_move rfl rfl) ?_
    refine s_val rfl rfl (v_lenSlice rfl rfl Tryz.underlying28) ?_
    refine s_val rfl rfl (v_move rfl rfl) ?_
    refine wpList_nil ?_
    refine wp_block ?_
    refine w_loop (fun k f w1 => ∃ i : Nat, k + i = l.length ∧ f 8 = .slice a l.length c ∧ f 9 = .int .i64 l.length ∧ f 10 = .int .i64 i ∧ (∀ x ∈ l.take i, Stv x) ∧ Ctx w0 w1 []) (l.length) ?_ ?_
    · skip
      exact ⟨0, by omega, rfl, rfl, rfl, by simp, cx⟩
    intro gk4 f w hJ
    obtain ⟨i, hk, hs8, hs9, hs10, hall, cx⟩ := hJ
    refine wp_seq ?_
    refine wp_region_lit ?_
    refine s_val rfl rfl (v_cmp rfl hs10 hs9 rfl) ?_
    refine wpList_nil ?_
    refine wp_seq ?_
    refine c_split rfl (fun hc11 => ?_) (fun hc11 => ?_)
    · skip
      try simp only [Bool.and_eq_true, Bool.or_eq_true, Bool.and_eq_false_iff, Bool.or_eq_false_iff, Bool.not_eq_true', Bool.not_eq_false', decide_eq_true_eq, decide_eq_false_iff_not, beq_iff_eq, beq_eq_false_iff_ne, bne_iff_ne, bne_eq_false_iff_eq, ne_eq, Classical.not_not] at hc11
      obtain ⟨x, hx⟩ : ∃ x, l[i]? = some x := ⟨l[i]'(by omega), List.getElem?_eq_getElem _⟩
      have hrw := hr i x hx
      obtain rfl := ha (by omega)
      refine wp_skip ?_
      refine wp_seq ?_
      refine wp_block ?_
      refine wp_seq ?_
      refine wp_region_lit ?_
      refine s_val rfl rfl (v_ia Tryz.underlying28 sz107 rfl hs8 hs10 (by omega) (by omega)) ?_
      refine s_val rfl rfl (v_load rfl rfl Tryz.underlying107 rfl sz107 (hrw.up cx.ext) rfl) ?_
      refine s_alloc cx z107 rfl rfl rfl ?_; intro b4 w cx hb4 hw4
      refine s_storeAll cx 0 rfl rfl rfl rfl rfl rfl sz107 rfl rfl ?_; intro w cx hwS
      refine wpList_nil ?_
      refine wp_seq ?_
      refine wp_region_lit ?_
      refine s_val rfl rfl (v_fa fa107_0 rfl rfl) ?_
      refine s_val rfl rfl (v_load1 rfl rfl Tryz.underlying4 rfl (cx.cell 0 rfl rfl)) ?_
      refine wpList_nil ?_
      refine c_split rfl (fun hc15 => ?_) (fun hc15 => ?_)
      · skip
        try simp only [Bool.and_eq_true, Bool.or_eq_true, Bool.and_eq_false_iff, Bool.or_eq_false_iff, Bool.not_eq_true', Bool.not_eq_false', decide_eq_true_eq, decide_eq_false_iff_not, beq_iff_eq, beq_eq_false_iff_ne, bne_iff_ne, bne_eq_false_iff_eq, ne_eq, Classical.not_not] at hc15
        refine wp_seq ?_
        refine wp_region_lit ?_
        refine s_val rfl rfl (v_fa fa107_1 rfl rfl) ?_
        refine s_val rfl rfl (v_load1 rfl rfl Tryz.underlying9 rfl (cx.cell 0 rfl rfl)) ?_
        refine s_val rfl rfl (v_strNe rfl rfl rfl) ?_
        refine s_val rfl rfl (v_move rfl rfl) ?_
        refine s_gval rfl rfl rfl (by first | exact w_ff rfl | exact w_gf rfl) (fun hc => v_fa fa107_2 rfl (by first | exact gve hc rfl | exact gve (and_l hc) rfl | exact gve (and_l (and_l hc)) rfl | rfl)) ?_
        refine s_gval rfl rfl rfl (by first | exact w_ff rfl | exact w_gf rfl) (fun hc => v_load1 rfl (by first | exact gve hc rfl | exact gve (and_l hc) rfl | exact gve (and_l (and_l hc)) rfl | rfl) Tryz.underlying3 rfl (cx.cell 0 rfl rfl)) ?_
        refine s_gval rfl rfl rfl (by first | exact w_ff rfl | exact w_gf rfl) (fun hc => v_cmp rfl (by first | exact gve hc rfl | exact gve (and_l hc) rfl | exact gve (and_l (and_l hc)) rfl | rfl) rfl rfl) ?_
        refine s_val rfl rfl (v_or rfl rfl rfl rfl) ?_
        refine s_val rfl rfl (v_move rfl rfl) ?_
        refine s_gval rfl rfl rfl (by first | exact w_ff rfl | exact w_gf rfl) (fun hc => v_fa fa107_2 rfl (by first | exact gve hc rfl | exact gve (and_l hc) rfl | exact gve (and_l (and_l hc)) rfl | rfl)) ?_
        refine s_gval rfl rfl rfl (by first | exact w_ff rfl | exact w_gf rfl) (fun hc => v_load1 rfl (by first | exact gve hc rfl | exact gve (and_l hc) rfl | exact gve (and_l (and_l hc)) rfl | rfl) Tryz.underlying3 rfl (cx.cell 0 rfl rfl)) ?_
        refine s_gval rfl rfl rfl (by first | exact w_ff rfl | exact w_gf rfl) (fun hc => v_cmp rfl (by first | exact gve hc rfl | exact gve (and_l hc) rfl | exact gve (and_l (and_l hc)) rfl | rfl) rfl rfl) ?_
        refine s_val rfl rfl (v_or rfl rfl rfl rfl) ?_
        refine wpList_nil ?_
        refine c_split rfl (fun hc28 => ?_) (fun hc28 => ?_)
        · skip
          try simp only [Bool.and_eq_true, Bool.or_eq_true, Bool.and_eq_false_iff, Bool.or_eq_false_iff, Bool.not_eq_true', Bool.not_eq_false', decide_eq_true_eq, decide_eq_false_iff_not, beq_iff_eq, beq_eq_false_iff_ne, bne_iff_ne, bne_eq_false_iff_eq, ne_eq, Classical.not_not] at hc28
          refine wp_seq ?_
          refine wp_region_lit ?_
          refine s_val rfl rfl (v_assign rfl rfl) ?_
          refine wpList_nil ?_
          refine wp_ret ?_
          refine ret_tmp Tryz.results40 rfl ?_
          refine ⟨cx.ext, _, rfl, (fun h => by cases h), fun h => ?_⟩
          exfalso
          have hx' := h.2 x (List.mem_of_getElem? hx)
          obtain ⟨h3, h4, h5⟩ := hx'.1 hc15
          rcases hc28 with (h2 | h2) | h2
          · exact h2 h3
          · omega
          · omega
        · skip
          try simp only [Bool.and_eq_true, Bool.or_eq_true, Bool.and_eq_false_iff, Bool.or_eq_false_iff, Bool.not_eq_true', Bool.not_eq_false', decide_eq_true_eq, decide_eq_false_iff_not, beq_iff_eq, beq_eq_false_iff_ne, bne_iff_ne, bne_eq_false_iff_eq, ne_eq, Classical.not_not] at hc28
          refine wp_skip ?_
          refine wp_region_lit ?_
          refine s_val rfl rfl (v_add rfl hs10 rfl (by omega) (by omega)) ?_
          refine s_val rfl rfl (v_move rfl rfl) ?_
          refine wpList_nil ?_
          refine ⟨gk4 - 1, _, by omega, rfl, i + 1, by omega, hs8, hs9, rfl, fun y hy => ?_, Ctx.sub0 cx⟩
          obtain ⟨hi, e⟩ := List.getElem?_eq_some_iff.1 hx
          rw [List.take_succ_eq_append_getElem hi] at hy
          rcases List.mem_append.1 hy with hy | hy
          · exact hall y hy
          · rw [e] at hy
            obtain rfl := List.mem_singleton.1 hy
            refine ⟨fun h => ?_, fun h => ?_⟩
            · exact ⟨hc28.1.1, by omega, by omega⟩
            · rw [h] at hc15; cases hc15
      · skip
        try simp only [Bool.and_eq_true, Bool.or_eq_true, Bool.and_eq_false_iff, Bool.or_eq_false_iff, Bool.not_eq_true', Bool.not_eq_false', decide_eq_true_eq, decide_eq_false_iff_not, beq_iff_eq, beq_eq_false_iff_ne, bne_iff_ne, bne_eq_false_iff_eq, ne_eq, Classical.not_not] at hc15
        refine wp_seq ?_
        refine wp_region_lit ?_
        refine s_val rfl rfl (v_fa fa107_2 rfl rfl) ?_
        refine s_val rfl rfl (v_load1 rfl rfl Tryz.underlying3 rfl (cx.cell 0 rfl rfl)) ?_
        refine s_val rfl rfl (v_cmp rfl rfl rfl rfl) ?_
        refine s_val rfl rfl (v_move rfl rfl) ?_
        refine s_gval rfl rfl rfl (by first | exact w_ff rfl | exact w_gf rfl) (fun hc => v_fa fa107_1 rfl (by first | exact gve hc rfl | exact gve (and_l hc) rfl | exact gve (and_l (and_l hc)) rfl | rfl)) ?_
        refine s_gval rfl rfl rfl (by first | exact w_ff rfl | exact w_gf rfl) (fun hc => v_load1 rfl (by first | exact gve hc rfl | exact gve (and_l hc) rfl | exact gve (and_l (and_l hc)) rfl | rfl) Tryz.underlying9 rfl (cx.cell 0 rfl rfl)) ?_
        refine s_gval rfl rfl rfl (by first | exact w_ff rfl | exact w_gf rfl) (fun hc => v_lenString rfl (by first | exact gve hc rfl | exact gve (and_l hc) rfl | exact gve (and_l (and_l hc)) rfl | rfl) Tryz.underlying9) ?_
        refine s_gval rfl rfl rfl (by first | exact w_ff rfl | exact w_gf rfl) (fun hc => v_cmp rfl (by first | exact gve hc rfl | exact gve (and_l hc) rfl | exact gve (and_l (and_l hc)) rfl | rfl) rfl rfl) ?_
        refine s_val rfl rfl (v_or rfl rfl rfl rfl) ?_
        refine s_val rfl rfl (v_move rfl rfl) ?_
        refine s_gval rfl rfl rfl (by first | exact w_ff rfl | exact w_gf rfl) (fun hc => v_fa fa107_1 rfl (by first | exact gve hc rfl | exact gve (and_l hc) rfl | exact gve (and_l (and_l hc)) rfl | rfl)) ?_
        refine s_gval rfl rfl rfl (by first | exact w_ff rfl | exact w_gf rfl) (fun hc => v_load1 rfl (by first | exact gve hc rfl | exact gve (and_l hc) rfl | exact gve (and_l (and_l hc)) rfl | rfl) Tryz.underlying9 rfl (cx.cell 0 rfl rfl)) ?_
        refine s_gfnB cx rfl rfl rfl (by first | exact w_ff rfl | exact w_gf rfl) (fun hc => c92 x.key _ (by first | omega | (simp only [Bool.and_eq_true, Bool.or_eq_true, Bool.and_eq_false_iff, Bool.or_eq_false_iff, Bool.not_eq_true', Bool.not_eq_false', decide_eq_true_eq, decide_eq_false_iff_not, beq_iff_eq, beq_eq_false_iff_ne, bne_iff_ne, bne_eq_false_iff_eq, ne_eq, Classical.not_not] at hc; omega))) Tryz.func92 rfl rfl rfl (fun hc => (cons_eq (by first | exact gve hc rfl | exact gve (and_l hc) rfl | exact gve (and_l (and_l hc)) rfl | rfl) rfl)) ?_; intro q41 w cx hw41 hp41
        refine s_gval rfl rfl rfl (by first | exact w_ff rfl | exact w_gf rfl) (fun hc => v_not rfl (by first | exact gve hc rfl | exact gve (and_l hc) rfl | exact gve (and_l (and_l hc)) rfl | rfl)) ?_
        refine s_val rfl rfl (v_or rfl rfl rfl rfl) ?_
        refine wpList_nil ?_
        refine c_split rfl (fun hc43 => ?_) (fun hc43 => ?_)
        · skip
          try simp only [Bool.and_eq_true, Bool.or_eq_true, Bool.and_eq_false_iff, Bool.or_eq_false_iff, Bool.not_eq_true', Bool.not_eq_false', decide_eq_true_eq, decide_eq_false_iff_not, beq_iff_eq, beq_eq_false_iff_ne, bne_iff_ne, bne_eq_false_iff_eq, ne_eq, Classical.not_not] at hc43
          refine wp_seq ?_
          refine wp_region_lit ?_
          refine s_val rfl rfl (v_assign rfl rfl) ?_
          refine wpList_nil ?_
          refine wp_ret ?_
          refine ret_tmp Tryz.results40 rfl ?_
          refine ⟨cx.ext, _, rfl, (fun h => by cases h), fun h => ?_⟩
          exfalso
          have hx' := h.2 x (List.mem_of_getElem? hx)
          obtain ⟨h3, h4, h5⟩ := hx'.2 hc15
          rcases hc43 with (h2 | h2) | h2
          · exact h2 h3
          · omega
          · rw [hp41 (by first | (simp [h3]; omega) | simp [h3, h4]), h5] at h2
            cases h2
        · skip
          try simp only [Bool.and_eq_true, Bool.or_eq_true, Bool.and_eq_false_iff, Bool.or_eq_false_iff, Bool.not_eq_true', Bool.not_eq_false', decide_eq_true_eq, decide_eq_false_iff_not, beq_iff_eq, beq_eq_false_iff_ne, bne_iff_ne, bne_eq_false_iff_eq, ne_eq, Classical.not_not] at hc43
          refine wp_skip ?_
          refine wp_region_lit ?_
          refine s_val rfl rfl (v_add rfl hs10 rfl (by omega) (by omega)) ?_
          refine s_val rfl rfl (v_move rfl rfl) ?_
          refine wpList_nil ?_
          refine ⟨gk4 - 1, _, by omega, rfl, i + 1, by omega, hs8, hs9, rfl, fun y hy => ?_, Ctx.sub0 cx⟩
          obtain ⟨hi, e⟩ := List.getElem?_eq_some_iff.1 hx
          rw [List.take_succ_eq_append_getElem hi] at hy
          rcases List.mem_append.1 hy with hy | hy
          · exact hall y hy
          · rw [e] at hy
            obtain rfl := List.mem_singleton.1 hy
            refine ⟨fun h => ?_, fun h => ?_⟩
            · rw [h] at hc15; cases hc15
            · obtain ⟨⟨h2, h3⟩, h4⟩ := hc43
              refine ⟨h2, by omega, ?_⟩
              rw [← hp41 (by first | (simp [h2]; omega) | simp [h2, h3])]
              exact h4
    · skip
      try simp only [Bool.and_eq_true, Bool.or_eq_true, Bool.and_eq_false_iff, Bool.or_eq_false_iff, Bool.not_eq_true', Bool.not_eq_false', decide_eq_true_eq, decide_eq_false_iff_not, beq_iff_eq, beq_eq_false_iff_ne, bne_iff_ne, bne_eq_false_iff_eq, ne_eq, Classical.not_not] at hc11
      refine wp_exit ?_
      refine wp_seq ?_
      refine wp_region_lit ?_
      refine s_val rfl rfl (v_assign rfl rfl) ?_
      refine wpList_nil ?_
      refine wp_ret ?_
      refine ret_tmp Tryz.results40 rfl ?_
      refine ⟨cx.ext, _, rfl, fun _ => ⟨by omega, ?_⟩, fun _ => rfl⟩
      have e : i = l.length := by omega
      subst e
      rw [List.take_length] at hall
      exact hall

end Go.Proofs.YthiafbkolhnadaaGreatDoor
