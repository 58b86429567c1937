/-
  The law of checks.
-/
import Derived.Test.YthiafbkolhnadaaGreatDoorGo
import Derived.Test.YthiafbkolhnadaaGreatDoorLv
set_option linter.unusedSimpArgs false
set_option linter.unusedVariables false
namespace Go.Proofs.YthiafbkolhnadaaGreatDoor
open Go Go.Dk Go.RowKit Go.Lib
attribute [local irreducible] Go.wpList Go.Code.wp Go.bodyPost Go.wpStill Go.wpQuiet
set_option maxHeartbeats 4000000 in
set_option maxRecDepth 10000 in
theorem c12 (x : Idx) (a a2 : Option Addr) (c c2 : Nat) (w0 : World) : Fc Tryz.prog 12 [.agg ([.int .i64 x.fmt, .int .i64 x.size, .int .i64 x.depth, .slice a x.ents.length c, .slice a2 x.cols.length c2] : List Value).toArray] w0 (IsB fun b => b = true ↔ x.ents.length ≤ 60 ∧ x.cols.length ≤ 30) := by
  refine ret_enter Tryz.func12 rfl Tryz.ntmps12 rfl ?_
  have cx := Ctx.start w0
  refine wp_seq ?_
  refine wp_region_lit ?_
  refine s_box cx rfl rfl rfl rfl rfl ?_; intro b1 w cx hb1 hw1
  refine s_val rfl rfl (v_assign rfl rfl) ?_
  refine wpList_nil ?_
  refine wp_seq ?_
  refine wp_region_lit ?_
  refine s_val rfl rfl (v_fa fa35_3 rfl rfl) ?_
  refine s_val rfl rfl (v_load1 rfl rfl Tryz.underlying32 rfl (cx.cell 0 rfl rfl)) ?_
  refine s_val rfl rfl (v_lenSlice rfl rfl Tryz.underlying32) ?_
  refine s_val rfl rfl (v_cmp rfl rfl rfl rfl) ?_
  refine s_val rfl rfl (v_move rfl rfl) ?_
  refine s_gval rfl rfl rfl (by first | exact w_tt rfl | exact w_gt rfl) (fun hc => v_fa fa35_4 rfl (by first | exact gve hc rfl | exact gve (and_l hc) rfl | exact gve (and_l (and_l hc)) rfl | rfl)) ?_
  refine s_gval rfl rfl rfl (by first | exact w_tt rfl | exact w_gt rfl) (fun hc => v_load1 rfl (by first | exact gve hc rfl | exact gve (and_l hc) rfl | exact gve (and_l (and_l hc)) rfl | rfl) Tryz.underlying33 rfl (cx.cell 0 rfl rfl)) ?_
  refine s_gval rfl rfl rfl (by first | exact w_tt rfl | exact w_gt rfl) (fun hc => v_lenSlice rfl (by first | exact gve hc rfl | exact gve (and_l hc) rfl | exact gve (and_l (and_l hc)) rfl | rfl) Tryz.underlying33) ?_
  refine s_gval rfl rfl rfl (by first | exact w_tt rfl | exact w_gt rfl) (fun hc => v_cmp rfl (by first | exact gve hc rfl | exact gve (and_l hc) rfl | exact gve (and_l (and_l hc)) rfl | rfl) rfl rfl) ?_
  refine s_val rfl rfl (v_and rfl rfl rfl rfl) ?_
  refine s_val rfl rfl (v_assign rfl rfl) ?_
  refine wpList_nil ?_
  refine wp_ret ?_
  refine ret_tmp Tryz.results12 rfl ?_
  refine ⟨cx.ext, _, rfl, ?_⟩
  simp only [Bool.and_eq_true, decide_eq_true_eq]
  omega

theorem conj_t {a b c d e : Bool} : (((((a && b) && c) && d) && e)) = true ↔ a = true ∧ b = true ∧ c = true ∧ d = true ∧ e = true := by cases a <;> cases b <;> cases c <;> cases d <;> cases e <;> decide
set_option maxHeartbeats 4000000 in
set_option maxRecDepth 10000 in
theorem law (x : Idx) (a a2 : Option Addr) (c c2 : Nat) (v : Value) (l : List Stp) (w0 : World) (hX : IdxV w0 x [.int .i64 x.fmt, .int .i64 x.size, .int .i64 x.depth, .slice a x.ents.length c, .slice a2 x.cols.length c2]) (hq : Pth w0 v l) (ht : Tabs w0) (hs : Szd x) (hl0 : l.length ≤ 1048576) : Fc Tryz.prog 4 [.agg ([.int .i64 x.fmt, .int .i64 x.size, .int .i64 x.depth, .slice a x.ents.length c, .slice a2 x.cols.length c2] : List Value).toArray, v] w0 (IsB fun b => b = true) := by
  obtain ⟨qa, qc, rfl, hqc⟩ := hq.sl
  refine ret_enter Tryz.func4 rfl Tryz.ntmps4 rfl ?_
  have cx := Ctx.start w0
  refine wp_seq ?_
  refine wp_region_lit ?_
  refine s_box cx rfl rfl rfl rfl rfl ?_; intro b2 w cx hb2 hw2
  refine s_val rfl rfl (v_assign rfl rfl) ?_
  refine wpList_nil ?_
  refine wp_seq ?_
  refine wp_seq ?_
  refine wp_region_lit ?_
  refine s_val rfl rfl (v_load rfl rfl Tryz.underlying35 rfl sz35 (cx.row 0 rfl) rfl) ?_
  refine s_fnB cx (c12 x a a2 c c2 _) Tryz.func12 rfl rfl rfl rfl rfl rfl ?_; intro q14 w cx hw14 hp14
  refine s_val rfl rfl (v_not rfl rfl) ?_
  refine s_val rfl rfl (v_move rfl rfl) ?_
  refine s_gval rfl rfl rfl (by first | exact w_ff rfl | exact w_gf rfl) (fun hc => v_move rfl (by first | exact gve hc rfl | exact gve (and_l hc) rfl | exact gve (and_l (and_l hc)) rfl | rfl)) ?_
  refine s_gval rfl rfl rfl (by first | exact w_ff rfl | exact w_gf rfl) (fun hc => v_lenSlice rfl (by first | exact gve hc rfl | exact gve (and_l hc) rfl | exact gve (and_l (and_l hc)) rfl | rfl) Tryz.underlying28) ?_
  refine s_gval rfl rfl rfl (by first | exact w_ff rfl | exact w_gf rfl) (fun hc => v_cmp rfl (by first | exact gve hc rfl | exact gve (and_l hc) rfl | exact gve (and_l (and_l hc)) rfl | rfl) rfl rfl) ?_
  refine s_val rfl rfl (v_or rfl rfl rfl rfl) ?_
  refine wpList_nil ?_
  refine c_split rfl (fun hc20 => ?_) (fun hc20 => ?_)
  · skip
    try simp only [Bool.and_eq_true, Bool.or_eq_true, Bool.and_eq_false_iff, Bool.or_eq_false_iff, Bool.not_eq_true', Bool.not_eq_false', decide_eq_true_eq, decide_eq_false_iff_not, beq_iff_eq, beq_eq_false_iff_ne, bne_iff_ne, bne_eq_false_iff_eq, ne_eq, Classical.not_not] at hc20
    refine wp_seq ?_
    refine wp_region_lit ?_
    refine s_fnB cx (c8 _) Tryz.func8 rfl rfl rfl rfl rfl rfl ?_; intro q21 w cx hw21 hp21
    refine s_val rfl rfl (v_assign rfl rfl) ?_
    refine wpList_nil ?_
    refine wp_ret ?_
    refine ret_tmp Tryz.results4 rfl ?_
    exact ⟨cx.ext, _, rfl, hp21⟩
  · skip
    try simp only [Bool.and_eq_true, Bool.or_eq_true, Bool.and_eq_false_iff, Bool.or_eq_false_iff, Bool.not_eq_true', Bool.not_eq_false', decide_eq_true_eq, decide_eq_false_iff_not, beq_iff_eq, beq_eq_false_iff_ne, bne_iff_ne, bne_eq_false_iff_eq, ne_eq, Classical.not_not] at hc20
    have hl : l.length ≤ 60 := by omega
    refine wp_skip ?_
    refine wp_seq ?_
    refine wp_seq ?_
    refine w_quiet cx mixed (by kernel_rfl) ?_
    skip
    refine q_val rfl rfl (fun w cx hwQ => v_load rfl rfl Tryz.underlying35 rfl sz35 (cx.row 0 rfl) rfl) ?_
    refine q_call (v := .int .i64 (chkX x)) rfl rfl (runs_fn Tryz.func13 rfl rfl rfl (cons_eq rfl rfl)) (fun w cx hwQ => (c13 _ x _ (hX.up cx.ext) (ht.up cx.ext) hs).ofI) ?_
    refine q_val rfl rfl (fun w cx hwQ => v_load rfl rfl Tryz.underlying35 rfl sz35 (cx.row 0 rfl) rfl) ?_
    refine q_call (v := .int .i64 (chkX x)) rfl rfl (runs_fn Tryz.func14 rfl rfl rfl (cons_eq rfl rfl)) (fun w cx hwQ => (c14 _ x _ (hX.up cx.ext) hs).ofI) ?_
    refine q_val rfl rfl (fun w cx hwQ => v_cmp rfl rfl rfl rfl) ?_
    refine q_nil ?_; rintro w ⟨cx, hwQ3⟩
    refine c_split rfl (fun hc26 => ?_) (fun hc26 => ?_)
    · skip
      exact absurd hc26 (by simp)
    · skip
      try simp only [Bool.and_eq_true, Bool.or_eq_true, Bool.and_eq_false_iff, Bool.or_eq_false_iff, Bool.not_eq_true', Bool.not_eq_false', decide_eq_true_eq, decide_eq_false_iff_not, beq_iff_eq, beq_eq_false_iff_ne, bne_iff_ne, bne_eq_false_iff_eq, ne_eq, Classical.not_not] at hc26
      refine wp_skip ?_
      refine wp_seq ?_
      refine wp_seq ?_
      refine wp_region_lit ?_
      refine s_val rfl rfl (v_load rfl rfl Tryz.underlying35 rfl sz35 (cx.row 0 rfl) rfl) ?_
      refine s_fnI cx (c14 _ x _ (hX.up cx.ext) hs) Tryz.func14 rfl rfl rfl rfl rfl rfl ?_; intro q28 w cx hw28 hp28
      subst hp28
      refine s_val rfl rfl (v_cmp rfl rfl rfl rfl) ?_
      refine s_val rfl rfl (v_move rfl rfl) ?_
      refine s_gval rfl rfl rfl (by first | exact w_ff rfl | exact w_gf rfl) (fun hc => v_move rfl (by first | exact gve hc rfl | exact gve (and_l hc) rfl | exact gve (and_l (and_l hc)) rfl | rfl)) ?_
      refine s_gfnB cx rfl rfl rfl (by first | exact w_ff rfl | exact w_gf rfl) (fun hc => c15 _ l _ (hq.up cx.ext) (by simp only [Bool.and_eq_true, Bool.or_eq_true, Bool.and_eq_false_iff, Bool.or_eq_false_iff, Bool.not_eq_true', Bool.not_eq_false', decide_eq_true_eq, decide_eq_false_iff_not, beq_iff_eq, beq_eq_false_iff_ne, bne_iff_ne, bne_eq_false_iff_eq, ne_eq, Classical.not_not] at hc; omega)) Tryz.func15 rfl rfl rfl (fun hc => (cons_eq (by first | exact gve hc rfl | exact gve (and_l hc) rfl | exact gve (and_l (and_l hc)) rfl | rfl) rfl)) ?_; intro q32 w cx hw32 hp32
      refine s_gval rfl rfl rfl (by first | exact w_ff rfl | exact w_gf rfl) (fun hc => v_not rfl (by first | exact gve hc rfl | exact gve (and_l hc) rfl | exact gve (and_l (and_l hc)) rfl | rfl)) ?_
      refine s_val rfl rfl (v_or rfl rfl rfl rfl) ?_
      refine wpList_nil ?_
      refine c_split rfl (fun hc34 => ?_) (fun hc34 => ?_)
      · skip
        try simp only [Bool.and_eq_true, Bool.or_eq_true, Bool.and_eq_false_iff, Bool.or_eq_false_iff, Bool.not_eq_true', Bool.not_eq_false', decide_eq_true_eq, decide_eq_false_iff_not, beq_iff_eq, beq_eq_false_iff_ne, bne_iff_ne, bne_eq_false_iff_eq, ne_eq, Classical.not_not] at hc34
        refine wp_seq ?_
        refine wp_region_lit ?_
        refine s_fnB cx (c8 _) Tryz.func8 rfl rfl rfl rfl rfl rfl ?_; intro q35 w cx hw35 hp35
        refine s_val rfl rfl (v_assign rfl rfl) ?_
        refine wpList_nil ?_
        refine wp_ret ?_
        refine ret_tmp Tryz.results4 rfl ?_
        exact ⟨cx.ext, _, rfl, hp35⟩
      · skip
        try simp only [Bool.and_eq_true, Bool.or_eq_true, Bool.and_eq_false_iff, Bool.or_eq_false_iff, Bool.not_eq_true', Bool.not_eq_false', decide_eq_true_eq, decide_eq_false_iff_not, beq_iff_eq, beq_eq_false_iff_ne, bne_iff_ne, bne_eq_false_iff_eq, ne_eq, Classical.not_not] at hc34
        have hchk : chkX x = 0 := hc34.1
        have hnl := near_len (p := l) hs.pl
        refine wp_skip ?_
        refine wp_seq ?_
        refine wp_region_lit ?_
        refine s_val rfl rfl (v_load rfl rfl Tryz.underlying35 rfl sz35 (cx.row 0 rfl) rfl) ?_
        refine s_val rfl rfl (v_move rfl rfl) ?_
        refine s_fn cx (c16 _ x _ l _ (hX.up cx.ext) (hq.up cx.ext) hs (by omega)) Tryz.func16 rfl rfl rfl rfl rfl rfl ?_; intro q39 w cx hw39 hp39
        subst hp39
        unfold lookV
        refine s_val rfl rfl (v_move rfl rfl) ?_
        refine s_val rfl rfl (v_extract rfl rfl rfl) ?_
        refine s_val rfl rfl (v_extract rfl rfl rfl) ?_
        refine s_alloc cx z48 rfl rfl rfl ?_; intro b5 w cx hb5 hw5
        refine s_storeAll cx 0 rfl rfl rfl rfl rfl rfl sz48 rfl rfl ?_; intro w cx hwS7
        refine s_val rfl rfl (v_assign rfl rfl) ?_
        refine wpList_nil ?_
        refine wp_seq ?_
        refine wp_region_lit ?_
        refine s_val rfl rfl (v_load rfl rfl Tryz.underlying35 rfl sz35 (cx.row 1 rfl) rfl) ?_
        refine s_val rfl rfl (v_move rfl rfl) ?_
        refine s_fn cx (c17 _ x _ l _ (hX.up cx.ext) (hq.up cx.ext) hs (by omega)) Tryz.func17 rfl rfl rfl rfl rfl rfl ?_; intro q45 w cx hw45 hp45
        subst hp45
        unfold lookV
        refine s_val rfl rfl (v_move rfl rfl) ?_
        refine s_val rfl rfl (v_extract rfl rfl rfl) ?_
        refine s_val rfl rfl (v_extract rfl rfl rfl) ?_
        refine s_alloc cx z48 rfl rfl rfl ?_; intro b7 w cx hb7 hw7
        refine s_storeAll cx 0 rfl rfl rfl rfl rfl rfl sz48 rfl rfl ?_; intro w cx hwS8
        refine s_val rfl rfl (v_assign rfl rfl) ?_
        refine wpList_nil ?_
        refine wp_seq ?_
        refine wp_region_lit ?_
        refine s_val rfl rfl (v_load rfl rfl Tryz.underlying35 rfl sz35 (cx.row 2 rfl) rfl) ?_
        refine s_val rfl rfl (v_move rfl rfl) ?_
        refine s_fn cx (c18 _ x _ l _ (hX.up cx.ext) (hq.up cx.ext) hs (fun e he => (chk_good hchk e he).2) (by omega)) Tryz.func18 rfl rfl rfl rfl rfl rfl ?_; intro q51 w cx hw51 hp51
        obtain ⟨n51, rfl, hn51⟩ := hp51
        obtain ⟨na51, nc51, rfl, _⟩ := hn51.sl
        have hrow2 := cx.row 2 rfl
        have hrow5 := cx.row 1 rfl
        have hrow7 := cx.row 0 rfl
        have hB1 := cx.ext
        replace hX := hX.up cx.ext
        replace hq := hq.up cx.ext
        replace cx := Ctx.start w
        refine s_val rfl rfl (v_move rfl rfl) ?_
        refine s_val rfl rfl (v_extract rfl rfl rfl) ?_
        refine s_val rfl rfl (v_extract rfl rfl rfl) ?_
        refine s_alloc cx z52 rfl rfl rfl ?_; intro b9 w cx hb9 hw9
        refine s_storeAll cx 0 rfl rfl rfl rfl rfl rfl sz52 rfl rfl ?_; intro w cx hwS9
        refine s_val rfl rfl (v_assign rfl rfl) ?_
        refine wpList_nil ?_
        refine wp_seq ?_
        refine wp_region_lit ?_
        refine s_val rfl rfl (v_load rfl rfl Tryz.underlying35 rfl sz35 (hrow2.up cx.ext) rfl) ?_
        refine s_val rfl rfl (v_move rfl rfl) ?_
        refine s_fn cx (c19 _ x _ l _ (hX.up cx.ext) (hq.up cx.ext) hs (by omega)) Tryz.func19 rfl rfl rfl rfl rfl rfl ?_; intro q57 w cx hw57 hp57
        obtain ⟨n57, rfl, hn57⟩ := hp57
        obtain ⟨na57, nc57, rfl, _⟩ := hn57.sl
        replace hrow5 := hrow5.up cx.ext
        replace hrow7 := hrow7.up cx.ext
        have hrow9 := cx.row 0 rfl
        have hn1 := hn51.up cx.ext
        have hB2 := cx.ext
        replace cx := Ctx.start w
        refine s_val rfl rfl (v_move rfl rfl) ?_
        refine s_val rfl rfl (v_extract rfl rfl rfl) ?_
        refine s_val rfl rfl (v_extract rfl rfl rfl) ?_
        refine s_alloc cx z52 rfl rfl rfl ?_; intro b11 w cx hb11 hw11
        refine s_storeAll cx 0 rfl rfl rfl rfl rfl rfl sz52 rfl rfl ?_; intro w cx hwS10
        refine s_val rfl rfl (v_assign rfl rfl) ?_
        refine wpList_nil ?_
        refine wp_seq ?_
        refine wp_region_lit ?_
        refine s_val rfl rfl (v_load rfl rfl Tryz.underlying48 rfl sz48 (hrow5.up cx.ext) rfl) ?_
        refine s_val rfl rfl (v_load rfl rfl Tryz.underlying48 rfl sz48 (hrow7.up cx.ext) rfl) ?_
        refine s_val rfl rfl (v_agg eqg48 (eq48 _ _ _ _) rfl rfl rfl) ?_
        refine s_val rfl rfl (v_move rfl rfl) ?_
        refine s_gval rfl rfl rfl (by first | exact w_tt rfl | exact w_gt rfl) (fun hc => v_move rfl (by first | exact gve hc rfl | exact gve (and_l hc) rfl | exact gve (and_l (and_l hc)) rfl | rfl)) ?_
        refine s_gval rfl rfl rfl (by first | exact w_tt rfl | exact w_gt rfl) (fun hc => v_move rfl (by first | exact gve hc rfl | exact gve (and_l hc) rfl | exact gve (and_l (and_l hc)) rfl | rfl)) ?_
        refine s_gval rfl rfl rfl (by first | exact w_tt rfl | exact w_gt rfl) (fun hc => v_beq (eqb _ _) rfl (by first | exact gve hc rfl | rfl) (by first | exact gve hc rfl | rfl)) ?_
        refine s_val rfl rfl (v_and rfl rfl rfl rfl) ?_
        refine s_val rfl rfl (v_move rfl rfl) ?_
        refine s_gval rfl rfl rfl (by first | exact w_tt rfl | exact w_gt rfl) (fun hc => v_move rfl (by first | exact gve hc rfl | exact gve (and_l hc) rfl | exact gve (and_l (and_l hc)) rfl | rfl)) ?_
        refine s_gval rfl rfl rfl (by first | exact w_tt rfl | exact w_gt rfl) (fun hc => v_move rfl (by first | exact gve hc rfl | exact gve (and_l hc) rfl | exact gve (and_l (and_l hc)) rfl | rfl)) ?_
        refine s_gval rfl rfl rfl (by first | exact w_tt rfl | exact w_gt rfl) (fun hc => v_beq (eqb _ _) rfl (by first | exact gve hc rfl | rfl) (by first | exact gve hc rfl | rfl)) ?_
        refine s_val rfl rfl (v_and rfl rfl rfl rfl) ?_
        refine s_val rfl rfl (v_move rfl rfl) ?_
        refine s_gval rfl rfl rfl (by first | exact w_tt rfl | exact w_gt rfl) (fun hc => v_fa fa52_1 rfl (by first | exact gve hc rfl | exact gve (and_l hc) rfl | exact gve (and_l (and_l hc)) rfl | rfl)) ?_
        refine s_gval rfl rfl rfl (by first | exact w_tt rfl | exact w_gt rfl) (fun hc => v_load rfl (by first | exact gve hc rfl | rfl) Tryz.underlying48 rfl sz48 (l := [.int .i64 (lkF (nearP x.ents l)), .int .i64 (lkT (nearP x.ents l))]) ((hrow9.up cx.ext).sub 1 rfl) rfl) ?_
        refine s_gval rfl rfl rfl (by first | exact w_tt rfl | exact w_gt rfl) (fun hc => v_fa fa52_1 rfl (by first | exact gve hc rfl | exact gve (and_l hc) rfl | exact gve (and_l (and_l hc)) rfl | rfl)) ?_
        refine s_gval rfl rfl rfl (by first | exact w_tt rfl | exact w_gt rfl) (fun hc => v_load rfl (by first | exact gve hc rfl | rfl) Tryz.underlying48 rfl sz48 (l := [.int .i64 (lkF (nearP x.ents l)), .int .i64 (lkT (nearP x.ents l))]) ((cx.row 0 rfl).sub 1 rfl) rfl) ?_
        refine s_gval rfl rfl rfl (by first | exact w_tt rfl | exact w_gt rfl) (fun hc => v_agg eqg48 (eq48 _ _ _ _) rfl (by first | exact gve hc rfl | rfl) (by first | exact gve hc rfl | rfl)) ?_
        refine s_val rfl rfl (v_and rfl rfl rfl rfl) ?_
        refine s_val rfl rfl (v_move rfl rfl) ?_
        refine s_gval rfl rfl rfl (by first | exact w_tt rfl | exact w_gt rfl) (fun hc => v_fa fa52_0 rfl (by first | exact gve hc rfl | exact gve (and_l hc) rfl | exact gve (and_l (and_l hc)) rfl | rfl)) ?_
        refine s_gval rfl rfl rfl (by first | exact w_tt rfl | exact w_gt rfl) (fun hc => v_load1 rfl (by first | exact gve hc rfl | exact gve (and_l hc) rfl | exact gve (and_l (and_l hc)) rfl | rfl) Tryz.underlying28 rfl ((hrow9.up cx.ext).cell 0 rfl)) ?_
        refine s_gval rfl rfl rfl (by first | exact w_tt rfl | exact w_gt rfl) (fun hc => v_fa fa52_0 rfl (by first | exact gve hc rfl | exact gve (and_l hc) rfl | exact gve (and_l (and_l hc)) rfl | rfl)) ?_
        refine s_gval rfl rfl rfl (by first | exact w_tt rfl | exact w_gt rfl) (fun hc => v_load1 rfl (by first | exact gve hc rfl | exact gve (and_l hc) rfl | exact gve (and_l (and_l hc)) rfl | rfl) Tryz.underlying28 rfl (cx.cell 0 rfl rfl)) ?_
        refine s_gfnB cx rfl rfl rfl (by first | exact w_tt rfl | exact w_gt rfl) (fun hc => c20 _ _ _ _ _ (hn1.up cx.ext) (hn57.up cx.ext) (by omega) (by omega)) Tryz.func20 rfl rfl rfl (fun hc => (cons_eq (by first | exact gve hc rfl | exact gve (and_l hc) rfl | exact gve (and_l (and_l hc)) rfl | rfl) (cons_eq (by first | exact gve hc rfl | exact gve (and_l hc) rfl | exact gve (and_l (and_l hc)) rfl | rfl) rfl))) ?_; intro q85 w cx hw85 hp85
        refine s_val rfl rfl (v_and rfl rfl rfl rfl) ?_
        refine s_val rfl rfl (v_move rfl rfl) ?_
        refine s_gfnB cx rfl rfl rfl (by first | exact w_tt rfl | exact w_gt rfl) (fun hc => c8 _) Tryz.func8 rfl rfl rfl (fun hc => rfl) ?_; intro q88 w cx hw88 hp88
        refine s_val rfl rfl (v_and rfl rfl rfl rfl) ?_
        refine s_val rfl rfl (v_assign rfl rfl) ?_
        refine wpList_nil ?_
        refine wp_ret ?_
        refine ret_tmp Tryz.results4 rfl ?_
        refine ⟨hB1.trans ((hB2.mono hB1.size).trans (cx.ext.mono (Nat.le_trans hB1.size hB2.size))), _, rfl, ?_⟩
        have h85 : q85 = true := (hp85 (by simp)).2 rfl
        have h88 : q88 = true := hp88 (by simp [h85])
        simp [h85, h88]

end Go.Proofs.YthiafbkolhnadaaGreatDoor
