/-
  The nearest entry: the program.
-/
import Derived.Test.YthiafbkolhnadaaGreatDoorGm
set_option linter.unusedSimpArgs false
set_option linter.unusedVariables false
namespace Go.Proofs.YthiafbkolhnadaaGreatDoor
open Go Go.Dk Go.RowKit Go.Lib
attribute [local irreducible] Go.wpList Go.Code.wp Go.bodyPost Go.wpStill Go.wpQuiet
theorem c46e (v u : Value) (l m : List Stp) (w0 : World) (hv : Pth w0 v l) (hu : Pth w0 u m) (hl : l.length ≤ 140737488355328) (hm : m.length ≤ 140737488355328) : Fc Tryz.prog 46 [v, u] w0 (fun v _ => v = .bool (preB l m)) :=
  (c46 v u l m w0 hv hu hl hm).mono fun v w' _ ⟨r, hv, hr⟩ => by
    rw [hv]
    congr 1
    rw [Bool.eq_iff_iff]
    exact Iff.trans hr preB_T.symm
theorem hx_mk {w : World} {x : Idx} {ve vc : Value} (h1 : Ens w ve x.ents) (h2 : Cls w vc x.cols) : IdxV w x [.int .i64 x.fmt, .int .i64 x.size, .int .i64 x.depth, ve, vc] := ⟨_, _, rfl, h1, h2⟩
set_option maxHeartbeats 4000000 in
set_option maxRecDepth 10000 in
theorem c18 (r : List Value) (x : Idx) (v : Value) (l : List Stp) (w0 : World) (hx : IdxV w0 x r) (hq : Pth w0 v l) (hs : Szd x) (hg : ∀ e ∈ x.ents, 0 < e.path.length) (hl : l.length ≤ 1048576) : Fc Tryz.prog 18 [.agg r.toArray, v] w0 (NearV (nearP x.ents l)) := by
  obtain ⟨ve, vc, rfl, hE, hC⟩ := hx
  obtain ⟨a, c, b, o, rfl, ha, hr⟩ := hE.form
  obtain ⟨a2, c2, b2, o2, rfl, _, _⟩ := hC.form
  obtain ⟨qa, qc, rfl, hqc⟩ := hq.sl
  have hel := hs.el
  refine ret_enter Tryz.func18 rfl Tryz.ntmps18 rfl ?_
  have cx := Ctx.start w0
  refine wp_seq ?_
  refine wp_region_lit ?_
  refine s_box cx rfl rfl rfl rfl rfl ?_; intro b2 w cx hb2 hw2
  refine s_alloc cx z52 rfl rfl rfl ?_; intro b4 w cx hb4 hw4
  refine s_val rfl rfl (v_assign rfl rfl) ?_
  refine wpList_nil ?_
  refine wp_seq ?_
  refine wp_region_lit ?_
  refine s_val rfl rfl (v_assign rfl rfl) ?_
  refine wpList_nil ?_
  refine wp_seq ?_
  refine wp_seq ?_
  refine wp_region_lit ?_
  refine s_val rfl rfl (v_fa fa35_3 rfl rfl) ?_
  refine s_val rfl rfl (v_load1 rfl rfl Tryz.underlying32 rfl (cx.cell 1 rfl rfl)) ?_
  refine s_val rfl rfl (v_lenSlice rfl rfl Tryz.underlying32) ?_
  refine s_val rfl rfl (v_move rfl rfl) ?_
  refine wpList_nil ?_
  refine wp_block ?_
  refine w_loop (fun k f w1 => ∃ (i b2_ b4 : Nat) (bst : Int), k + i = x.ents.length ∧ f 1 = .slice qa l.length qc ∧ f 2 = .pointer (some ⟨b2_, 0, none⟩) ∧ f 4 = .pointer (some ⟨b4, 0, none⟩) ∧ f 6 = .int .i64 bst ∧ f 11 = .slice a x.ents.length c ∧ f 12 = .int .i64 x.ents.length ∧ f 13 = .int .i64 i ∧ BestI x.ents l i bst ∧ Ctx w0 w1 [(b4, .cells ([.slice none 0 0, .int .i64 0, .int .i64 0] : List Value).toArray 52), (b2_, .cells ([.int .i64 x.fmt, .int .i64 x.size, .int .i64 x.depth, .slice a x.ents.length c, .slice a2 x.cols.length c2] : List Value).toArray 35)]) (x.ents.length) ?_ ?_
  · skip
    exact ⟨0, _, _, _, by omega, rfl, rfl, rfl, rfl, rfl, rfl, rfl, BestI.zero _ _, cx⟩
  intro gk3 f w hJ
  obtain ⟨i, b2_, b4, bst, hk, hs1, hs2, hs4, hs6, hs11, hs12, hs13, hbest, cx⟩ := hJ
  refine wp_seq ?_
  refine wp_region_lit ?_
  refine s_val rfl rfl (v_cmp rfl hs13 hs12 rfl) ?_
  refine wpList_nil ?_
  refine wp_seq ?_
  refine c_split rfl (fun hc14 => ?_) (fun hc14 => ?_)
  · skip
    try simp only [Bool.and_eq_true, Bool.or_eq_true, Bool.and_eq_false_iff, Bool.or_eq_false_iff, Bool.not_eq_true', Bool.not_eq_false', decide_eq_true_eq, decide_eq_false_iff_not, beq_iff_eq, beq_eq_false_iff_ne, bne_iff_ne, bne_eq_false_iff_eq, ne_eq, Classical.not_not] at hc14
    obtain ⟨e, he⟩ : ∃ e, x.ents[i]? = some e := ⟨x.ents[i]'(by omega), List.getElem?_eq_getElem _⟩
    obtain ⟨p, hrw, hp⟩ := hr i e he
    obtain ⟨pa, pc, rfl, hpc⟩ := hp.sl
    obtain rfl := ha (by omega)
    have hpl := hs.pl e (List.mem_of_getElem? he)
    have hbi := hbest.hi
    obtain ⟨be, hbe⟩ := hbest.ex
    obtain ⟨ba, bc, brow⟩ : ∃ ba bc, 0 ≤ bst → RowAt w0 b (o + bst.toNat * 3) [.slice ba be.path.length bc, .int .i64 be.fr, .int .i64 be.to] ∧ Pth w0 (.slice ba be.path.length bc) be.path := by
      rcases Int.lt_or_le bst 0 with h | h
      · exact ⟨none, 0, fun h' => by omega⟩
      · obtain ⟨p, h1, h2⟩ := hr _ be (hbe h)
        obtain ⟨ba, bc, rfl, _⟩ := h2.sl
        exact ⟨ba, bc, fun _ => ⟨h1, h2⟩⟩
    refine wp_skip ?_
    refine wp_seq ?_
    refine wp_block ?_
    refine wp_seq ?_
    refine wp_region_lit ?_
    refine s_val rfl rfl (v_move rfl hs13) ?_
    refine s_val rfl rfl (v_ia Tryz.underlying32 sz52 rfl hs11 hs13 (by omega) (by omega)) ?_
    refine s_val rfl rfl (v_load rfl rfl Tryz.underlying52 rfl sz52 (hrw.up cx.ext) rfl) ?_
    refine s_alloc cx z52 rfl rfl rfl ?_; intro b8 w cx hb8 hw8
    refine s_val rfl rfl (v_assign rfl rfl) ?_
    refine s_storeAll cx 0 rfl rfl rfl rfl rfl rfl sz52 rfl rfl ?_; intro w cx hwS4
    refine wpList_nil ?_
    refine wp_seq ?_
    refine w_quiet cx mixed (by kernel_rfl) ?_
    skip
    refine q_val rfl rfl (fun w cx hwQ => v_move rfl hs1) ?_
    refine q_val rfl rfl (fun w cx hwQ => v_fa fa52_0 rfl rfl) ?_
    refine q_val rfl rfl (fun w cx hwQ => v_load1 rfl rfl Tryz.underlying28 rfl (cx.cell 0 rfl rfl)) ?_
    refine q_call (v := .bool (preB l e.path)) rfl rfl (runs_fn Tryz.func46 rfl rfl rfl (cons_eq rfl (cons_eq rfl rfl))) (fun w cx hwQ => c46e _ _ _ _ _ (hq.up cx.ext) (hp.up cx.ext) (by omega) (by omega)) ?_
    refine q_val rfl rfl (fun w cx hwQ => v_move rfl rfl) ?_
    refine q_gval rfl rfl rfl (by first | exact w_tt rfl | exact w_gt rfl) (fun hc w cx hwQ => v_move rfl hs6) ?_
    refine q_gval rfl rfl rfl (by first | exact w_tt rfl | exact w_gt rfl) (fun hc w cx hwQ => v_cmp rfl (by first | exact gve hc rfl | exact gve (and_l hc) rfl | exact gve (and_l (and_l hc)) rfl | rfl) rfl rfl) ?_
    refine q_gval rfl rfl rfl (by first | exact w_tt rfl | exact w_gt rfl) (fun hc w cx hwQ => v_move rfl (by first | exact gve hc rfl | exact gve (and_l hc) rfl | exact gve (and_l (and_l hc)) rfl | rfl)) ?_
    refine q_gval rfl rfl rfl (by first | exact w_ff rfl | exact w_gf rfl) (fun hc w cx hwQ => v_fa fa52_0 rfl (by first | exact gve hc rfl | exact gve (and_l hc) rfl | exact gve (and_l (and_l hc)) rfl | rfl)) ?_
    refine q_gval rfl rfl rfl (by first | exact w_ff rfl | exact w_gf rfl) (fun hc w cx hwQ => v_load1 rfl (by first | exact gve hc rfl | exact gve (and_l hc) rfl | exact gve (and_l (and_l hc)) rfl | rfl) Tryz.underlying28 rfl (cx.cell 0 rfl rfl)) ?_
    refine q_gval rfl rfl rfl (by first | exact w_ff rfl | exact w_gf rfl) (fun hc w cx hwQ => v_lenSlice rfl (by first | exact gve hc rfl | exact gve (and_l hc) rfl | exact gve (and_l (and_l hc)) rfl | rfl) Tryz.underlying28) ?_
    refine q_gval rfl rfl rfl (by first | exact w_ff rfl | exact w_gf rfl) (fun hc w cx hwQ => v_fa fa35_3 rfl hs2) ?_
    refine q_gval rfl rfl rfl (by first | exact w_ff rfl | exact w_gf rfl) (fun hc w cx hwQ => v_load1 rfl (by first | exact gve hc rfl | exact gve (and_l hc) rfl | exact gve (and_l (and_l hc)) rfl | rfl) Tryz.underlying32 rfl (cx.cell 2 rfl rfl)) ?_
    refine q_gval rfl rfl rfl (by first | exact w_ff rfl | exact w_gf rfl) (fun hc w cx hwQ => v_move rfl hs6) ?_
    refine q_gval rfl rfl rfl (by first | exact w_ff rfl | exact w_gf rfl) (fun hc w cx hwQ => v_ia Tryz.underlying32 sz52 rfl (by first | exact gve hc rfl | exact gve (and_l hc) rfl | exact gve (and_l (and_l hc)) rfl | rfl) (by first | exact gve hc rfl | exact gve (and_l hc) rfl | exact gve (and_l (and_l hc)) rfl | rfl) (by first | omega | (simp only [Bool.and_eq_true, Bool.or_eq_true, Bool.and_eq_false_iff, Bool.or_eq_false_iff, Bool.not_eq_true', Bool.not_eq_false', decide_eq_true_eq, decide_eq_false_iff_not, beq_iff_eq, beq_eq_false_iff_ne, bne_iff_ne, bne_eq_false_iff_eq, ne_eq, Classical.not_not] at hc; omega)) (by first | omega | (simp only [Bool.and_eq_true, Bool.or_eq_true, Bool.and_eq_false_iff, Bool.or_eq_false_iff, Bool.not_eq_true', Bool.not_eq_false', decide_eq_true_eq, decide_eq_false_iff_not, beq_iff_eq, beq_eq_false_iff_ne, bne_iff_ne, bne_eq_false_iff_eq, ne_eq, Classical.not_not] at hc; omega))) ?_
    refine q_gval rfl rfl rfl (by first | exact w_ff rfl | exact w_gf rfl) (fun hc w cx hwQ => v_fa fa52_0 rfl (by first | exact gve hc rfl | exact gve (and_l hc) rfl | exact gve (and_l (and_l hc)) rfl | rfl)) ?_
    refine q_gval rfl rfl rfl (by first | exact w_ff rfl | exact w_gf rfl) (fun hc w cx hwQ => v_load1 rfl (by first | exact gve hc rfl | exact gve (and_l hc) rfl | exact gve (and_l (and_l hc)) rfl | rfl) Tryz.underlying28 rfl (((brow (by simp only [Bool.and_eq_true, Bool.or_eq_true, Bool.and_eq_false_iff, Bool.or_eq_false_iff, Bool.not_eq_true', Bool.not_eq_false', decide_eq_true_eq, decide_eq_false_iff_not, beq_iff_eq, beq_eq_false_iff_ne, bne_iff_ne, bne_eq_false_iff_eq, ne_eq, Classical.not_not] at hc; omega)).1.up cx.ext).cell 0 rfl)) ?_
    refine q_gval rfl rfl rfl (by first | exact w_ff rfl | exact w_gf rfl) (fun hc w cx hwQ => v_lenSlice rfl (by first | exact gve hc rfl | exact gve (and_l hc) rfl | exact gve (and_l (and_l hc)) rfl | rfl) Tryz.underlying28) ?_
    refine q_gval rfl rfl rfl (by first | exact w_ff rfl | exact w_gf rfl) (fun hc w cx hwQ => v_cmp rfl (by first | exact gve hc rfl | exact gve (and_l hc) rfl | exact gve (and_l (and_l hc)) rfl | rfl) (by first | exact gve hc rfl | exact gve (and_l hc) rfl | exact gve (and_l (and_l hc)) rfl | rfl) rfl) ?_
    refine q_gval rfl rfl rfl (by first | exact w_tt rfl | exact w_gt rfl) (fun hc w cx hwQ => v_or_g hc rfl rfl rfl rfl) ?_
    refine q_val rfl rfl (fun w cx hwQ => v_and rfl rfl rfl rfl) ?_
    refine q_nil ?_; rintro w ⟨cx, hwQ5⟩
    refine c_split rfl (fun hc38 => ?_) (fun hc38 => ?_)
    · skip
      try simp only [Bool.and_eq_true, Bool.or_eq_true, Bool.and_eq_false_iff, Bool.or_eq_false_iff, Bool.not_eq_true', Bool.not_eq_false', decide_eq_true_eq, decide_eq_false_iff_not, beq_iff_eq, beq_eq_false_iff_ne, bne_iff_ne, bne_eq_false_iff_eq, ne_eq, Classical.not_not] at hc38
      have hpre : Pre l e.path := preB_T.1 hc38.1
      have hbn : BestI x.ents l (i + 1) i := by
        rcases Int.lt_or_le bst 0 with h0 | h0
        · exact hbest.fresh he hpre h0
        · exact hbest.more' h0 he hpre (hbe h0) (by have := hc38.2; omega)
      refine wp_region_lit ?_
      refine s_val rfl rfl (v_move rfl rfl) ?_
      refine s_val rfl rfl (v_assign rfl rfl) ?_
      refine wpList_nil ?_
      refine wp_region_lit ?_
      refine s_val rfl rfl (v_add rfl hs13 rfl (by omega) (by omega)) ?_
      refine s_val rfl rfl (v_move rfl rfl) ?_
      refine wpList_nil ?_
      refine ⟨gk3 - 1, _, by omega, rfl, i + 1, b2_, b4, _, by omega, hs1, hs2, hs4, rfl, hs11, hs12, rfl, hbn, cx.drop 1⟩
    · skip
      try simp only [Bool.and_eq_true, Bool.or_eq_true, Bool.and_eq_false_iff, Bool.or_eq_false_iff, Bool.not_eq_true', Bool.not_eq_false', decide_eq_true_eq, decide_eq_false_iff_not, beq_iff_eq, beq_eq_false_iff_ne, bne_iff_ne, bne_eq_false_iff_eq, ne_eq, Classical.not_not] at hc38
      have hbn : BestI x.ents l (i + 1) bst := by
        by_cases hpre : Pre l e.path
        · have h1 := preB_T.2 hpre
          rcases hc38 with h | h
          · rw [h1] at h; cases h
          · exact hbest.keep' (by omega) he (hbe (by omega)) (by omega)
        · exact hbest.skip he hpre
      refine wp_skip ?_
      refine wp_region_lit ?_
      refine s_val rfl rfl (v_add rfl hs13 rfl (by omega) (by omega)) ?_
      refine s_val rfl rfl (v_move rfl rfl) ?_
      refine wpList_nil ?_
      refine ⟨gk3 - 1, _, by omega, rfl, i + 1, b2_, b4, _, by omega, hs1, hs2, hs4, hs6, hs11, hs12, rfl, hbn, cx.drop 1⟩
  · skip
    try simp only [Bool.and_eq_true, Bool.or_eq_true, Bool.and_eq_false_iff, Bool.or_eq_false_iff, Bool.not_eq_true', Bool.not_eq_false', decide_eq_true_eq, decide_eq_false_iff_not, beq_iff_eq, beq_eq_false_iff_ne, bne_iff_ne, bne_eq_false_iff_eq, ne_eq, Classical.not_not] at hc14
    refine wp_exit ?_
    refine wp_seq ?_
    refine wp_seq ?_
    refine wp_region_lit ?_
    refine s_val rfl rfl (v_move rfl hs6) ?_
    refine s_val rfl rfl (v_cmp rfl rfl rfl rfl) ?_
    refine wpList_nil ?_
    refine c_split rfl (fun hc42 => ?_) (fun hc42 => ?_)
    · skip
      try simp only [Bool.and_eq_true, Bool.or_eq_true, Bool.and_eq_false_iff, Bool.or_eq_false_iff, Bool.not_eq_true', Bool.not_eq_false', decide_eq_true_eq, decide_eq_false_iff_not, beq_iff_eq, beq_eq_false_iff_ne, bne_iff_ne, bne_eq_false_iff_eq, ne_eq, Classical.not_not] at hc42
      refine wp_seq ?_
      refine wp_region_lit ?_
      refine s_val rfl rfl (v_build bd52 rfl rfl) ?_
      refine s_storeAll cx 0 rfl rfl rfl hs4 rfl rfl sz52 rfl rfl ?_; intro w cx hwS9
      refine s_val rfl rfl (v_assign rfl rfl) ?_
      refine wpList_nil ?_
      refine wp_ret ?_
      refine ret_cell2 Tryz.results18 hs4 rfl (cx.at 0 rfl) Tryz.underlying52 rfl sz52 ?_
      have hn : nearP x.ents l = none := hbest.end0 (by omega) hc42
      refine ⟨cx.ext, ?_⟩
      rw [hn]
      exact ⟨_, rfl, pth_nil _⟩
    · skip
      try simp only [Bool.and_eq_true, Bool.or_eq_true, Bool.and_eq_false_iff, Bool.or_eq_false_iff, Bool.not_eq_true', Bool.not_eq_false', decide_eq_true_eq, decide_eq_false_iff_not, beq_iff_eq, beq_eq_false_iff_ne, bne_iff_ne, bne_eq_false_iff_eq, ne_eq, Classical.not_not] at hc42
      have hbi := hbest.hi
      obtain ⟨be, hbe⟩ := hbest.ex
      obtain ⟨ba, bc, brow⟩ : ∃ ba bc, 0 ≤ bst → RowAt w0 b (o + bst.toNat * 3) [.slice ba be.path.length bc, .int .i64 be.fr, .int .i64 be.to] ∧ Pth w0 (.slice ba be.path.length bc) be.path := by
        rcases Int.lt_or_le bst 0 with h | h
        · exact ⟨none, 0, fun h' => by omega⟩
        · obtain ⟨p, h1, h2⟩ := hr _ be (hbe h)
          obtain ⟨ba, bc, rfl, _⟩ := h2.sl
          exact ⟨ba, bc, fun _ => ⟨h1, h2⟩⟩
      have h0 : 0 ≤ bst := by omega
      obtain rfl := ha (by omega)
      have hbm := List.mem_of_getElem? (hbe h0)
      have hbp := hg be hbm
      have hbl := hs.pl be hbm
      obtain ⟨sb, so, sc, hsv, hsrc⟩ := (brow h0).2.src hbp
      cases hsv
      refine wp_skip ?_
      refine wp_seq ?_
      refine wp_region_lit ?_
      refine s_val rfl rfl (v_fa fa35_3 rfl hs2) ?_
      refine s_val rfl rfl (v_load1 rfl rfl Tryz.underlying32 rfl (cx.cell 1 rfl rfl)) ?_
      refine s_val rfl rfl (v_move rfl hs6) ?_
      refine s_val rfl rfl (v_ia Tryz.underlying32 sz52 rfl rfl rfl (by omega) (by omega)) ?_
      refine s_val rfl rfl (v_load rfl rfl Tryz.underlying52 rfl sz52 ((brow h0).1.up cx.ext) rfl) ?_
      refine s_alloc cx z52 rfl rfl rfl ?_; intro b9 w cx hb9 hw9
      refine s_storeAll cx 0 rfl rfl rfl rfl rfl rfl sz52 rfl rfl ?_; intro w cx hwS10
      refine wpList_nil ?_
      refine wp_seq ?_
      refine w_ord cx (cx.pick1 0 rfl) mixed [(0, 49), (1, 50), (3, 52), (4, 53)] #[true, true, false, true, true, false, false, false] (by kernel_rfl) (by kernel_rfl) (by kernel_rfl) (by kernel_rfl) ?_
      refine pu_one rfl (wnt_none rfl) (fun w cx => v_fa fa52_0 rfl rfl) ?_
      refine pu_one rfl (wnt_none rfl) (fun w cx => v_load1 rfl rfl Tryz.underlying28 rfl (cx.cell 0 rfl rfl)) ?_
      refine pu_one rfl (wnt_none rfl) (fun w cx => v_fa fa52_1 rfl rfl) ?_
      refine pu_one rfl (wnt_none rfl) (fun w cx => v_load rfl rfl Tryz.underlying48 rfl sz48 (l := [.int .i64 be.fr, .int .i64 be.to]) ((cx.row 0 rfl).sub 1 rfl) rfl) ?_
      refine pu_nil ?_; intro w cx hwD11
      refine x_one (i := 2) (by kernel_rfl) rfl ?_
      refine s_append (cx.nilRow 107 3) ei107 Tryz.underlying28 rfl rfl rfl rfl rfl (hsrc.up cx.ext) (flat3 _) (flat3_one _) (by omega) ?_; intro v51 w cx hgr51
      obtain ⟨g51, c51, rfl, _, _, _⟩ := cx.rowS (by rw [List.nil_append, flat3]; omega)
      refine x_next ⟨.inl (cx.pick1 0 rfl), ?_⟩
      refine x_one (i := 5) (by kernel_rfl) rfl ?_
      refine s_val rfl rfl (v_build (qs := [(0, _), (1, .agg #[.int .i64 be.fr, .int .i64 be.to])]) (bd52f _ _ _ _ _) rfl rfl) ?_
      refine x_next ⟨.inr (by kernel_rfl), ?_⟩
      refine x_one (i := 6) (by kernel_rfl) rfl ?_
      refine s_storeAll cx 1 rfl rfl rfl hs4 rfl rfl sz52 rfl rfl ?_; intro w cx hwS11
      refine x_next ⟨.inr (by kernel_rfl), ?_⟩
      refine x_one (i := 7) (by kernel_rfl) rfl ?_
      refine s_val rfl rfl (v_assign rfl rfl) ?_
      refine x_next ⟨.inr (by kernel_rfl), ?_⟩
      refine x_done (by kernel_rfl) ?_
      refine wp_ret ?_
      refine ret_cell2 Tryz.results18 hs4 rfl (cx.at 1 rfl) Tryz.underlying52 rfl sz52 ?_
      have hn : nearP x.ents l = some be := hbest.fin h0 (by omega) (hbe h0) hbp
      refine ⟨cx.ext, ?_⟩
      rw [hn]
      obtain ⟨g, c', hv, hgc, hgl, hrow⟩ := cx.rowS (by rw [List.nil_append, flat3]; omega)
      cases hv
      exact ⟨_, rfl, Pth.ofRow hgl (by simp [lkP]) hgc hrow⟩

end Go.Proofs.YthiafbkolhnadaaGreatDoor
