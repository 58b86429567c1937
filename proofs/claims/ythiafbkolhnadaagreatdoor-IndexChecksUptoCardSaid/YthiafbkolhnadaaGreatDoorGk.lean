/-
  The checks of an index.
-/
import Derived.Test.YthiafbkolhnadaaGreatDoorGj
import Derived.Test.YthiafbkolhnadaaGreatDoorGd
import Derived.Test.YthiafbkolhnadaaGreatDoorGe
import Derived.Test.YthiafbkolhnadaaGreatDoorGi
set_option linter.unusedSimpArgs false
set_option linter.unusedVariables false
namespace Go.Proofs.YthiafbkolhnadaaGreatDoor
open Go Go.Dk Go.RowKit Go.Lib
attribute [local irreducible] Go.wpList Go.Code.wp Go.bodyPost Go.wpStill Go.wpQuiet
/-- sizes of an index -/
structure Szd (x : Idx) : Prop where
  el : x.ents.length ≤ 1048576
  cl : x.cols.length ≤ 1048576
  csz : ∀ c ∈ x.cols, c.size ≤ 1073741824
  pl : ∀ e ∈ x.ents, e.path.length ≤ 1048576
noncomputable def keysT (l : List Ent) : List ByteArray := l.map fun y => bs (pathT y.path)
theorem keysT_snoc {l : List Ent} {i : Nat} {e : Ent} (h : l[i]? = some e) : keysT (l.take (i + 1)) = keysT (l.take i) ++ [bs (pathT e.path)] := by
  unfold keysT
  rw [take_snoc h, List.map_append]
  rfl
theorem nodup_keys {l : List ByteArray} {k : ByteArray} (hn : l.Nodup) (h : k ∉ l) : (l ++ [k]).Nodup := by
  refine List.nodup_append.2 ⟨hn, by simp, ?_⟩
  intro a ha b hb hab
  obtain rfl := List.mem_singleton.1 hb
  exact h (hab ▸ ha)
set_option maxHeartbeats 4000000 in
set_option maxRecDepth 10000 in
theorem c13 (r : List Value) (x : Idx) (w0 : World) (hx : IdxV w0 x r) (ht : Tabs w0) (hs : Szd x) : Fc Tryz.prog 13 [.agg r.toArray] w0 (IsI fun m => m = chkX x) := by
  obtain ⟨ve, vc, rfl, hE, hC⟩ := hx
  obtain ⟨a, c, b, o, rfl, ha, hr⟩ := hE.form
  obtain ⟨a2, c2, b2, o2, rfl, _, _⟩ := hC.form
  refine ret_enter Tryz.func13 rfl Tryz.ntmps13 rfl ?_
  have cx := Ctx.start w0
  refine wp_seq ?_
  refine wp_region_lit ?_
  refine s_box cx rfl rfl rfl rfl rfl ?_; intro b1 w cx hb1 hw1
  refine s_val rfl rfl (v_assign rfl rfl) ?_
  refine wpList_nil ?_
  refine wp_seq ?_
  refine wp_seq ?_
  refine wp_region_lit ?_
  refine s_val rfl rfl (v_fa fa35_0 rfl rfl) ?_
  refine s_val rfl rfl (v_load1 rfl rfl Tryz.underlying3 rfl (cx.cell 0 rfl rfl)) ?_
  refine s_val rfl rfl (v_cmp rfl rfl rfl rfl) ?_
  refine s_val rfl rfl (v_move rfl rfl) ?_
  refine s_gval rfl rfl rfl (by first | exact w_tt rfl | exact w_gt rfl) (fun hc => v_fa fa35_0 rfl (by first | exact gve hc rfl | exact gve (and_l hc) rfl | exact gve (and_l (and_l hc)) rfl | rfl)) ?_
  refine s_gval rfl rfl rfl (by first | exact w_tt rfl | exact w_gt rfl) (fun hc => v_load1 rfl (by first | exact gve hc rfl | exact gve (and_l hc) rfl | exact gve (and_l (and_l hc)) rfl | rfl) Tryz.underlying3 rfl (cx.cell 0 rfl rfl)) ?_
  refine s_gval rfl rfl rfl (by first | exact w_tt rfl | exact w_gt rfl) (fun hc => v_cmp rfl (by first | exact gve hc rfl | exact gve (and_l hc) rfl | exact gve (and_l (and_l hc)) rfl | rfl) rfl rfl) ?_
  refine s_val rfl rfl (v_and rfl rfl rfl rfl) ?_
  refine s_val rfl rfl (v_move rfl rfl) ?_
  refine s_gval rfl rfl rfl (by first | exact w_ff rfl | exact w_gf rfl) (fun hc => v_fa fa35_1 rfl (by first | exact gve hc rfl | exact gve (and_l hc) rfl | exact gve (and_l (and_l hc)) rfl | rfl)) ?_
  refine s_gval rfl rfl rfl (by first | exact w_ff rfl | exact w_gf rfl) (fun hc => v_load1 rfl (by first | exact gve hc rfl | exact gve (and_l hc) rfl | exact gve (and_l (and_l hc)) rfl | rfl) Tryz.underlying3 rfl (cx.cell 0 rfl rfl)) ?_
  refine s_gval rfl rfl rfl (by first | exact w_ff rfl | exact w_gf rfl) (fun hc => v_cmp rfl (by first | exact gve hc rfl | exact gve (and_l hc) rfl | exact gve (and_l (and_l hc)) rfl | rfl) rfl rfl) ?_
  refine s_val rfl rfl (v_or rfl rfl rfl rfl) ?_
  refine s_val rfl rfl (v_move rfl rfl) ?_
  refine s_gval rfl rfl rfl (by first | exact w_ff rfl | exact w_gf rfl) (fun hc => v_fa fa35_1 rfl (by first | exact gve hc rfl | exact gve (and_l hc) rfl | exact gve (and_l (and_l hc)) rfl | rfl)) ?_
  refine s_gval rfl rfl rfl (by first | exact w_ff rfl | exact w_gf rfl) (fun hc => v_load1 rfl (by first | exact gve hc rfl | exact gve (and_l hc) rfl | exact gve (and_l (and_l hc)) rfl | rfl) Tryz.underlying3 rfl (cx.cell 0 rfl rfl)) ?_
  refine s_gval rfl rfl rfl (by first | exact w_ff rfl | exact w_gf rfl) (fun hc => v_cmp rfl (by first | exact gve hc rfl | exact gve (and_l hc) rfl | exact gve (and_l (and_l hc)) rfl | rfl) rfl rfl) ?_
  refine s_val rfl rfl (v_or rfl rfl rfl rfl) ?_
  refine s_val rfl rfl (v_move rfl rfl) ?_
  refine s_gval rfl rfl rfl (by first | exact w_ff rfl | exact w_gf rfl) (fun hc => v_fa fa35_2 rfl (by first | exact gve hc rfl | exact gve (and_l hc) rfl | exact gve (and_l (and_l hc)) rfl | rfl)) ?_
  refine s_gval rfl rfl rfl (by first | exact w_ff rfl | exact w_gf rfl) (fun hc => v_load1 rfl (by first | exact gve hc rfl | exact gve (and_l hc) rfl | exact gve (and_l (and_l hc)) rfl | rfl) Tryz.underlying3 rfl (cx.cell 0 rfl rfl)) ?_
  refine s_gval rfl rfl rfl (by first | exact w_ff rfl | exact w_gf rfl) (fun hc => v_cmp rfl (by first | exact gve hc rfl | exact gve (and_l hc) rfl | exact gve (and_l (and_l hc)) rfl | rfl) rfl rfl) ?_
  refine s_val rfl rfl (v_or rfl rfl rfl rfl) ?_
  refine s_val rfl rfl (v_move rfl rfl) ?_
  refine s_gval rfl rfl rfl (by first | exact w_ff rfl | exact w_gf rfl) (fun hc => v_fa fa35_2 rfl (by first | exact gve hc rfl | exact gve (and_l hc) rfl | exact gve (and_l (and_l hc)) rfl | rfl)) ?_
  refine s_gval rfl rfl rfl (by first | exact w_ff rfl | exact w_gf rfl) (fun hc => v_load1 rfl (by first | exact gve hc rfl | exact gve (and_l hc) rfl | exact gve (and_l (and_l hc)) rfl | rfl) Tryz.underlying3 rfl (cx.cell 0 rfl rfl)) ?_
  refine s_gval rfl rfl rfl (by first | exact w_ff rfl | exact w_gf rfl) (fun hc => v_cmp rfl (by first | exact gve hc rfl | exact gve (and_l hc) rfl | exact gve (and_l (and_l hc)) rfl | rfl) rfl rfl) ?_
  refine s_val rfl rfl (v_or rfl rfl rfl rfl) ?_
  refine s_val rfl rfl (v_move rfl rfl) ?_
  refine s_gval rfl rfl rfl (by first | exact w_ff rfl | exact w_gf rfl) (fun hc => v_fa fa35_0 rfl (by first | exact gve hc rfl | exact gve (and_l hc) rfl | exact gve (and_l (and_l hc)) rfl | rfl)) ?_
  refine s_gval rfl rfl rfl (by first | exact w_ff rfl | exact w_gf rfl) (fun hc => v_load1 rfl (by first | exact gve hc rfl | exact gve (and_l hc) rfl | exact gve (and_l (and_l hc)) rfl | rfl) Tryz.underlying3 rfl (cx.cell 0 rfl rfl)) ?_
  refine s_gval rfl rfl rfl (by first | exact w_ff rfl | exact w_gf rfl) (fun hc => v_cmp rfl (by first | exact gve hc rfl | exact gve (and_l hc) rfl | exact gve (and_l (and_l hc)) rfl | rfl) rfl rfl) ?_
  refine s_gval rfl rfl rfl (by first | exact w_ff rfl | exact w_gf rfl) (fun hc => v_move rfl (by first | exact gve hc rfl | exact gve (and_l hc) rfl | exact gve (and_l (and_l hc)) rfl | rfl)) ?_
  refine s_gval rfl rfl rfl (by first | exact w_tt rfl | exact w_gt rfl) (fun hc => v_fa fa35_4 rfl (by first | exact gve hc rfl | exact gve (and_l hc) rfl | exact gve (and_l (and_l hc)) rfl | rfl)) ?_
  refine s_gval rfl rfl rfl (by first | exact w_tt rfl | exact w_gt rfl) (fun hc => v_load1 rfl (by first | exact gve hc rfl | exact gve (and_l hc) rfl | exact gve (and_l (and_l hc)) rfl | rfl) Tryz.underlying33 rfl (cx.cell 0 rfl rfl)) ?_
  refine s_gval rfl rfl rfl (by first | exact w_tt rfl | exact w_gt rfl) (fun hc => v_lenSlice rfl (by first | exact gve hc rfl | exact gve (and_l hc) rfl | exact gve (and_l (and_l hc)) rfl | rfl) Tryz.underlying33) ?_
  refine s_gval rfl rfl rfl (by first | exact w_tt rfl | exact w_gt rfl) (fun hc => v_cmp rfl (by first | exact gve hc rfl | exact gve (and_l hc) rfl | exact gve (and_l (and_l hc)) rfl | rfl) rfl rfl) ?_
  refine s_gval rfl rfl rfl (by first | exact w_ff rfl | exact w_gf rfl) (fun hc => v_and_g hc rfl rfl rfl rfl) ?_
  refine s_val rfl rfl (v_or rfl rfl rfl rfl) ?_
  refine wpList_nil ?_
  refine c_split rfl (fun hc47 => ?_) (fun hc47 => ?_)
  · skip
    try simp only [Bool.and_eq_true, Bool.or_eq_true, Bool.and_eq_false_iff, Bool.or_eq_false_iff, Bool.not_eq_true', Bool.not_eq_false', decide_eq_true_eq, decide_eq_false_iff_not, beq_iff_eq, beq_eq_false_iff_ne, bne_iff_ne, bne_eq_false_iff_eq, ne_eq, Classical.not_not] at hc47
    have hh : hdrBad x := by unfold hdrBad; omega
    refine wp_seq ?_
    refine wp_region_lit ?_
    refine s_val rfl rfl (v_assign rfl rfl) ?_
    refine wpList_nil ?_
    refine wp_ret ?_
    refine ret_tmp Tryz.results13 rfl ?_
    refine ⟨cx.ext, _, rfl, ?_⟩
    exact (chkX_1 hh).symm
  · skip
    try simp only [Bool.and_eq_true, Bool.or_eq_true, Bool.and_eq_false_iff, Bool.or_eq_false_iff, Bool.not_eq_true', Bool.not_eq_false', decide_eq_true_eq, decide_eq_false_iff_not, beq_iff_eq, beq_eq_false_iff_ne, bne_iff_ne, bne_eq_false_iff_eq, ne_eq, Classical.not_not] at hc47
    have hh : ¬ hdrBad x := by unfold hdrBad; omega
    refine wp_skip ?_
    refine wp_seq ?_
    refine wp_seq ?_
    refine wp_region_lit ?_
    refine s_val rfl rfl (v_fa fa35_4 rfl rfl) ?_
    refine s_val rfl rfl (v_load1 rfl rfl Tryz.underlying33 rfl (cx.cell 0 rfl rfl)) ?_
    refine s_fnI cx (c39 _ _ _ (hC.up cx.ext) (ht.up cx.ext) (by have := hs.cl; omega) hs.csz) Tryz.func39 rfl rfl rfl rfl rfl rfl ?_; intro q50 w cx hw50 hp50
    subst hp50
    refine s_val rfl rfl (v_assign rfl rfl) ?_
    refine wpList_nil ?_
    refine wp_seq ?_
    refine wp_region_lit ?_
    refine s_val rfl rfl (v_move rfl rfl) ?_
    refine s_val rfl rfl (v_cmp rfl rfl rfl rfl) ?_
    refine wpList_nil ?_
    refine c_split rfl (fun hc52 => ?_) (fun hc52 => ?_)
    · skip
      try simp only [Bool.and_eq_true, Bool.or_eq_true, Bool.and_eq_false_iff, Bool.or_eq_false_iff, Bool.not_eq_true', Bool.not_eq_false', decide_eq_true_eq, decide_eq_false_iff_not, beq_iff_eq, beq_eq_false_iff_ne, bne_iff_ne, bne_eq_false_iff_eq, ne_eq, Classical.not_not] at hc52
      refine wp_seq ?_
      refine wp_region_lit ?_
      refine s_val rfl rfl (v_move rfl rfl) ?_
      refine s_val rfl rfl (v_assign rfl rfl) ?_
      refine wpList_nil ?_
      refine wp_ret ?_
      refine ret_tmp Tryz.results13 rfl ?_
      refine ⟨cx.ext, _, rfl, ?_⟩
      exact (chkX_c hh hc52).symm
    · skip
      try simp only [Bool.and_eq_true, Bool.or_eq_true, Bool.and_eq_false_iff, Bool.or_eq_false_iff, Bool.not_eq_true', Bool.not_eq_false', decide_eq_true_eq, decide_eq_false_iff_not, beq_iff_eq, beq_eq_false_iff_ne, bne_iff_ne, bne_eq_false_iff_eq, ne_eq, Classical.not_not] at hc52
      have hce := hc52
      refine wp_skip ?_
      refine wp_seq ?_
      refine wp_region_lit ?_
      refine s_makeMap cx rfl rfl rfl ?_; intro b54 w cx hb54 hw54
      refine s_val rfl rfl (v_assign rfl rfl) ?_
      refine wpList_nil ?_
      refine wp_seq ?_
      refine wp_region_lit ?_
      refine s_val rfl rfl (v_assign rfl rfl) ?_
      refine wpList_nil ?_
      refine wp_seq ?_
      refine wp_seq ?_
      refine wp_region_lit ?_
      refine s_val rfl rfl (v_fa fa35_3 rfl rfl) ?_
      refine s_val rfl rfl (v_load1 rfl rfl Tryz.underlying32 rfl (cx.cell 1 rfl rfl)) ?_
      refine s_val rfl rfl (v_lenSlice rfl rfl Tryz.underlying32) ?_
      refine s_val rfl rfl (v_move rfl rfl) ?_
      refine wpList_nil ?_
      refine wp_block ?_
      have hel := hs.el
      refine w_loop (fun k f w1 => ∃ (i b54 b1 : Nat), k + i = x.ents.length ∧ f 1 = .pointer (some ⟨b1, 0, none⟩) ∧ f 4 = .map (some b54) ∧ f 5 = .int .i64 (lastF (x.ents.take i)) ∧ f 56 = .slice a x.ents.length c ∧ f 57 = .int .i64 x.ents.length ∧ f 58 = .int .i64 i ∧ Past x x.ents i ∧ (keysT (x.ents.take i)).Nodup ∧ Ctx w0 w1 [(b54, .map (ents (keysT (x.ents.take i)) tt 0).toArray (keysT (x.ents.take i)).length), (b1, .cells ([.int .i64 x.fmt, .int .i64 x.size, .int .i64 x.depth, .slice a x.ents.length c, .slice a2 x.cols.length c2] : List Value).toArray 35)]) (x.ents.length) ?_ ?_
      · skip
        exact ⟨0, b54, b1, by omega, rfl, rfl, rfl, rfl, rfl, rfl, Past.zero _ _, by simp [keysT], cx⟩
      intro gk9 f w hJ
      obtain ⟨i, b54, b1, hk, hs1, hs4, hs5, hs56, hs57, hs58, hpast, hnod, cx⟩ := hJ
      refine wp_seq ?_
      refine wp_region_lit ?_
      refine s_val rfl rfl (v_cmp rfl hs58 hs57 rfl) ?_
      refine wpList_nil ?_
      refine wp_seq ?_
      refine c_split rfl (fun hc59 => ?_) (fun hc59 => ?_)
      · skip
        try simp only [Bool.and_eq_true, Bool.or_eq_true, Bool.and_eq_false_iff, Bool.or_eq_false_iff, Bool.not_eq_true', Bool.not_eq_false', decide_eq_true_eq, decide_eq_false_iff_not, beq_iff_eq, beq_eq_false_iff_ne, bne_iff_ne, bne_eq_false_iff_eq, ne_eq, Classical.not_not] at hc59
        obtain ⟨e, he⟩ : ∃ e, x.ents[i]? = some e := ⟨x.ents[i]'(by omega), List.getElem?_eq_getElem _⟩
        obtain ⟨p, hrw, hp⟩ := hr i e he
        obtain ⟨pa, pc, rfl, hpc⟩ := hp.sl
        obtain rfl := ha (by omega)
        have hpl := hs.pl e (List.mem_of_getElem? he)
        refine wp_skip ?_
        refine wp_seq ?_
        refine wp_block ?_
        refine wp_seq ?_
        refine wp_region_lit ?_
        refine s_val rfl rfl (v_ia Tryz.underlying32 sz52 rfl hs56 hs58 (by omega) (by omega)) ?_
        refine s_val rfl rfl (v_load rfl rfl Tryz.underlying52 rfl sz52 (hrw.up cx.ext) rfl) ?_
        refine s_alloc cx z52 rfl rfl rfl ?_; intro b7 w cx hb7 hw7
        refine s_storeAll cx 0 rfl rfl rfl rfl rfl rfl sz52 rfl rfl ?_; intro w cx hwS10
        refine wpList_nil ?_
        refine wp_seq ?_
        refine wp_seq ?_
        refine wp_region_lit ?_
        refine s_val rfl rfl (v_fa fa52_0 rfl rfl) ?_
        refine s_val rfl rfl (v_load1 rfl rfl Tryz.underlying28 rfl (cx.cell 0 rfl rfl)) ?_
        refine s_fnB cx (c40 _ _ _ (hp.up cx.ext) (by omega)) Tryz.func40 rfl rfl rfl rfl rfl rfl ?_; intro q64 w cx hw64 hp64
        refine s_val rfl rfl (v_not rfl rfl) ?_
        refine s_val rfl rfl (v_move rfl rfl) ?_
        refine s_gval rfl rfl rfl (by first | exact w_ff rfl | exact w_gf rfl) (fun hc => v_fa fa52_0 rfl (by first | exact gve hc rfl | exact gve (and_l hc) rfl | exact gve (and_l (and_l hc)) rfl | rfl)) ?_
        refine s_gval rfl rfl rfl (by first | exact w_ff rfl | exact w_gf rfl) (fun hc => v_load1 rfl (by first | exact gve hc rfl | exact gve (and_l hc) rfl | exact gve (and_l (and_l hc)) rfl | rfl) Tryz.underlying28 rfl (cx.cell 0 rfl rfl)) ?_
        refine s_gval rfl rfl rfl (by first | exact w_ff rfl | exact w_gf rfl) (fun hc => v_lenSlice rfl (by first | exact gve hc rfl | exact gve (and_l hc) rfl | exact gve (and_l (and_l hc)) rfl | rfl) Tryz.underlying28) ?_
        refine s_gval rfl rfl rfl (by first | exact w_ff rfl | exact w_gf rfl) (fun hc => v_cmp rfl (by first | exact gve hc rfl | exact gve (and_l hc) rfl | exact gve (and_l (and_l hc)) rfl | rfl) rfl rfl) ?_
        refine s_val rfl rfl (v_or rfl rfl rfl rfl) ?_
        refine s_val rfl rfl (v_move rfl rfl) ?_
        refine s_gval rfl rfl rfl (by first | exact w_ff rfl | exact w_gf rfl) (fun hc => v_fa fa52_0 rfl (by first | exact gve hc rfl | exact gve (and_l hc) rfl | exact gve (and_l (and_l hc)) rfl | rfl)) ?_
        refine s_gval rfl rfl rfl (by first | exact w_ff rfl | exact w_gf rfl) (fun hc => v_load1 rfl (by first | exact gve hc rfl | exact gve (and_l hc) rfl | exact gve (and_l (and_l hc)) rfl | rfl) Tryz.underlying28 rfl (cx.cell 0 rfl rfl)) ?_
        refine s_gval rfl rfl rfl (by first | exact w_ff rfl | exact w_gf rfl) (fun hc => v_lenSlice rfl (by first | exact gve hc rfl | exact gve (and_l hc) rfl | exact gve (and_l (and_l hc)) rfl | rfl) Tryz.underlying28) ?_
        refine s_gval rfl rfl rfl (by first | exact w_ff rfl | exact w_gf rfl) (fun hc => v_fa fa35_2 rfl hs1) ?_
        refine s_gval rfl rfl rfl (by first | exact w_ff rfl | exact w_gf rfl) (fun hc => v_load1 rfl (by first | exact gve hc rfl | exact gve (and_l hc) rfl | exact gve (and_l (and_l hc)) rfl | rfl) Tryz.underlying3 rfl (cx.cell 2 rfl rfl)) ?_
        refine s_gval rfl rfl rfl (by first | exact w_ff rfl | exact w_gf rfl) (fun hc => v_cmp rfl (by first | exact gve hc rfl | exact gve (and_l hc) rfl | exact gve (and_l (and_l hc)) rfl | rfl) (by first | exact gve hc rfl | exact gve (and_l hc) rfl | exact gve (and_l (and_l hc)) rfl | rfl) rfl) ?_
        refine s_val rfl rfl (v_or rfl rfl rfl rfl) ?_
        refine s_val rfl rfl (v_move rfl rfl) ?_
        refine s_gval rfl rfl rfl (by first | exact w_ff rfl | exact w_gf rfl) (fun hc => v_fa fa35_0 rfl hs1) ?_
        refine s_gval rfl rfl rfl (by first | exact w_ff rfl | exact w_gf rfl) (fun hc => v_load1 rfl (by first | exact gve hc rfl | exact gve (and_l hc) rfl | exact gve (and_l (and_l hc)) rfl | rfl) Tryz.underlying3 rfl (cx.cell 2 rfl rfl)) ?_
        refine s_gval rfl rfl rfl (by first | exact w_ff rfl | exact w_gf rfl) (fun hc => v_cmp rfl (by first | exact gve hc rfl | exact gve (and_l hc) rfl | exact gve (and_l (and_l hc)) rfl | rfl) rfl rfl) ?_
        refine s_gval rfl rfl rfl (by first | exact w_ff rfl | exact w_gf rfl) (fun hc => v_move rfl (by first | exact gve hc rfl | exact gve (and_l hc) rfl | exact gve (and_l (and_l hc)) rfl | rfl)) ?_
        refine s_gval rfl rfl rfl (by first | exact w_tt rfl | exact w_gt rfl) (fun hc => v_fa fa52_0 rfl (by first | exact gve hc rfl | exact gve (and_l hc) rfl | exact gve (and_l (and_l hc)) rfl | rfl)) ?_
        refine s_gval rfl rfl rfl (by first | exact w_tt rfl | exact w_gt rfl) (fun hc => v_load1 rfl (by first | exact gve hc rfl | exact gve (and_l hc) rfl | exact gve (and_l (and_l hc)) rfl | rfl) Tryz.underlying28 rfl (cx.cell 0 rfl rfl)) ?_
        refine s_gval rfl rfl rfl (by first | exact w_tt rfl | exact w_gt rfl) (fun hc => v_lenSlice rfl (by first | exact gve hc rfl | exact gve (and_l hc) rfl | exact gve (and_l (and_l hc)) rfl | rfl) Tryz.underlying28) ?_
        refine s_gval rfl rfl rfl (by first | exact w_tt rfl | exact w_gt rfl) (fun hc => v_cmp rfl (by first | exact gve hc rfl | exact gve (and_l hc) rfl | exact gve (and_l (and_l hc)) rfl | rfl) rfl rfl) ?_
        refine s_gval rfl rfl rfl (by first | exact w_ff rfl | exact w_gf rfl) (fun hc => v_and_g hc rfl rfl rfl rfl) ?_
        refine s_val rfl rfl (v_or rfl rfl rfl rfl) ?_
        refine wpList_nil ?_
        refine c_split rfl (fun hc90 => ?_) (fun hc90 => ?_)
        · skip
          try simp only [Bool.and_eq_true, Bool.or_eq_true, Bool.and_eq_false_iff, Bool.or_eq_false_iff, Bool.not_eq_true', Bool.not_eq_false', decide_eq_true_eq, decide_eq_false_iff_not, beq_iff_eq, beq_eq_false_iff_ne, bne_iff_ne, bne_eq_false_iff_eq, ne_eq, Classical.not_not] at hc90
          have hbd : pthBad x e := by
            unfold pthBad
            rcases hc90 with ((h | h) | h) | h
            · exact .inl fun hg => by rw [hp64.2 hg] at h; cases h
            · exact .inr (.inl (by omega))
            · exact .inr (.inr (.inl (by omega)))
            · exact .inr (.inr (.inr (by omega)))
          refine wp_seq ?_
          refine wp_region_lit ?_
          refine s_val rfl rfl (v_assign rfl rfl) ?_
          refine wpList_nil ?_
          refine wp_ret ?_
          refine ret_tmp Tryz.results13 rfl ?_
          refine ⟨cx.ext, _, rfl, ?_⟩
          show (21 : Int) = chkX x
          rw [chkX_e hh hce]
          exact (entsE_at he hpast (entE_21 hbd) (by decide)).symm
        · skip
          try simp only [Bool.and_eq_true, Bool.or_eq_true, Bool.and_eq_false_iff, Bool.or_eq_false_iff, Bool.not_eq_true', Bool.not_eq_false', decide_eq_true_eq, decide_eq_false_iff_not, beq_iff_eq, beq_eq_false_iff_ne, bne_iff_ne, bne_eq_false_iff_eq, ne_eq, Classical.not_not] at hc90
          have hgd : GdP e.path := hp64.1 hc90.1.1.1
          have hnb : ¬ pthBad x e := by
            unfold pthBad
            rintro (h | h)
            · exact h hgd
            · omega
          refine wp_skip ?_
          refine wp_seq ?_
          refine wp_seq ?_
          refine wp_region_lit ?_
          refine s_val rfl rfl (v_fa fa52_1 rfl rfl) ?_
          refine s_val rfl rfl (v_fa fa48_0 rfl rfl) ?_
          refine s_val rfl rfl (v_load1 rfl rfl Tryz.underlying3 rfl (cx.cell 0 rfl rfl)) ?_
          refine s_val rfl rfl (v_move rfl hs5) ?_
          refine s_val rfl rfl (v_cmp rfl rfl rfl rfl) ?_
          refine s_val rfl rfl (v_move rfl rfl) ?_
          refine s_gval rfl rfl rfl (by first | exact w_ff rfl | exact w_gf rfl) (fun hc => v_fa fa52_1 rfl (by first | exact gve hc rfl | exact gve (and_l hc) rfl | exact gve (and_l (and_l hc)) rfl | rfl)) ?_
          refine s_gval rfl rfl rfl (by first | exact w_ff rfl | exact w_gf rfl) (fun hc => v_fa fa48_0 rfl (by first | exact gve hc rfl | exact gve (and_l hc) rfl | exact gve (and_l (and_l hc)) rfl | rfl)) ?_
          refine s_gval rfl rfl rfl (by first | exact w_ff rfl | exact w_gf rfl) (fun hc => v_load1 rfl (by first | exact gve hc rfl | exact gve (and_l hc) rfl | exact gve (and_l (and_l hc)) rfl | rfl) Tryz.underlying3 rfl (cx.cell 0 rfl rfl)) ?_
          refine s_gval rfl rfl rfl (by first | exact w_ff rfl | exact w_gf rfl) (fun hc => v_fa fa52_1 rfl (by first | exact gve hc rfl | exact gve (and_l hc) rfl | exact gve (and_l (and_l hc)) rfl | rfl)) ?_
          refine s_gval rfl rfl rfl (by first | exact w_ff rfl | exact w_gf rfl) (fun hc => v_fa fa48_1 rfl (by first | exact gve hc rfl | exact gve (and_l hc) rfl | exact gve (and_l (and_l hc)) rfl | rfl)) ?_
          refine s_gval rfl rfl rfl (by first | exact w_ff rfl | exact w_gf rfl) (fun hc => v_load1 rfl (by first | exact gve hc rfl | exact gve (and_l hc) rfl | exact gve (and_l (and_l hc)) rfl | rfl) Tryz.underlying3 rfl (cx.cell 0 rfl rfl)) ?_
          refine s_gval rfl rfl rfl (by first | exact w_ff rfl | exact w_gf rfl) (fun hc => v_cmp rfl (by first | exact gve hc rfl | exact gve (and_l hc) rfl | exact gve (and_l (and_l hc)) rfl | rfl) (by first | exact gve hc rfl | exact gve (and_l hc) rfl | exact gve (and_l (and_l hc)) rfl | rfl) rfl) ?_
          refine s_val rfl rfl (v_or rfl rfl rfl rfl) ?_
          refine s_val rfl rfl (v_move rfl rfl) ?_
          refine s_gval rfl rfl rfl (by first | exact w_ff rfl | exact w_gf rfl) (fun hc => v_fa fa52_1 rfl (by first | exact gve hc rfl | exact gve (and_l hc) rfl | exact gve (and_l (and_l hc)) rfl | rfl)) ?_
          refine s_gval rfl rfl rfl (by first | exact w_ff rfl | exact w_gf rfl) (fun hc => v_fa fa48_1 rfl (by first | exact gve hc rfl | exact gve (and_l hc) rfl | exact gve (and_l (and_l hc)) rfl | rfl)) ?_
          refine s_gval rfl rfl rfl (by first | exact w_ff rfl | exact w_gf rfl) (fun hc => v_load1 rfl (by first | exact gve hc rfl | exact gve (and_l hc) rfl | exact gve (and_l (and_l hc)) rfl | rfl) Tryz.underlying3 rfl (cx.cell 0 rfl rfl)) ?_
          refine s_gval rfl rfl rfl (by first | exact w_ff rfl | exact w_gf rfl) (fun hc => v_fa fa35_1 rfl hs1) ?_
          refine s_gval rfl rfl rfl (by first | exact w_ff rfl | exact w_gf rfl) (fun hc => v_load1 rfl (by first | exact gve hc rfl | exact gve (and_l hc) rfl | exact gve (and_l (and_l hc)) rfl | rfl) Tryz.underlying3 rfl (cx.cell 2 rfl rfl)) ?_
          refine s_gval rfl rfl rfl (by first | exact w_ff rfl | exact w_gf rfl) (fun hc => v_cmp rfl (by first | exact gve hc rfl | exact gve (and_l hc) rfl | exact gve (and_l (and_l hc)) rfl | rfl) (by first | exact gve hc rfl | exact gve (and_l hc) rfl | exact gve (and_l (and_l hc)) rfl | rfl) rfl) ?_
          refine s_val rfl rfl (v_or rfl rfl rfl rfl) ?_
          refine wpList_nil ?_
          refine c_split rfl (fun hc112 => ?_) (fun hc112 => ?_)
          · skip
            try simp only [Bool.and_eq_true, Bool.or_eq_true, Bool.and_eq_false_iff, Bool.or_eq_false_iff, Bool.not_eq_true', Bool.not_eq_false', decide_eq_true_eq, decide_eq_false_iff_not, beq_iff_eq, beq_eq_false_iff_ne, bne_iff_ne, bne_eq_false_iff_eq, ne_eq, Classical.not_not] at hc112
            have hbr : rngBad x (x.ents.take i) e := by unfold rngBad; omega
            refine wp_seq ?_
            refine wp_region_lit ?_
            refine s_val rfl rfl (v_assign rfl rfl) ?_
            refine wpList_nil ?_
            refine wp_ret ?_
            refine ret_tmp Tryz.results13 rfl ?_
            refine ⟨cx.ext, _, rfl, ?_⟩
            show (2 : Int) = chkX x
            rw [chkX_e hh hce]
            exact (entsE_at he hpast (entE_2 hnb hbr) (by decide)).symm
          · skip
            try simp only [Bool.and_eq_true, Bool.or_eq_true, Bool.and_eq_false_iff, Bool.or_eq_false_iff, Bool.not_eq_true', Bool.not_eq_false', decide_eq_true_eq, decide_eq_false_iff_not, beq_iff_eq, beq_eq_false_iff_ne, bne_iff_ne, bne_eq_false_iff_eq, ne_eq, Classical.not_not] at hc112
            have hnr : ¬ rngBad x (x.ents.take i) e := by unfold rngBad; omega
            refine wp_skip ?_
            refine wp_seq ?_
            refine wp_region_lit ?_
            refine s_val rfl rfl (v_fa fa52_1 rfl rfl) ?_
            refine s_val rfl rfl (v_fa fa48_0 rfl rfl) ?_
            refine s_val rfl rfl (v_load1 rfl rfl Tryz.underlying3 rfl (cx.cell 0 rfl rfl)) ?_
            refine s_val rfl rfl (v_assign rfl rfl) ?_
            refine wpList_nil ?_
            refine wp_seq ?_
            refine wp_region_lit ?_
            refine s_val rfl rfl (v_fa fa52_0 rfl rfl) ?_
            refine s_val rfl rfl (v_load1 rfl rfl Tryz.underlying28 rfl (cx.cell 0 rfl rfl)) ?_
            refine s_fn cx (c41 _ _ _ (hp.up cx.ext) (fun s hs => (hgd.2 s hs).gds) hgd.1 (ht.up cx.ext)) Tryz.func41 rfl rfl rfl rfl rfl rfl ?_; intro q118 w cx hw118 hp118
            subst hp118
            refine s_val rfl rfl (v_assign rfl rfl) ?_
            refine wpList_nil ?_
            refine wp_seq ?_
            refine wp_seq ?_
            refine wp_region_lit ?_
            refine s_val rfl rfl (v_move rfl hs4) ?_
            refine s_val rfl rfl (v_move rfl rfl) ?_
            refine s_val rfl rfl (v_lookupT rfl rfl rfl Tryz.underlying102 Tryz.underlying9 (Tryz.zeroValue4 _) (cx.at 1 rfl)) ?_
            refine wpList_nil ?_
            refine c_split rfl (fun hc121 => ?_) (fun hc121 => ?_)
            · skip
              try simp only [Bool.and_eq_true, Bool.or_eq_true, Bool.and_eq_false_iff, Bool.or_eq_false_iff, Bool.not_eq_true', Bool.not_eq_false', decide_eq_true_eq, decide_eq_false_iff_not, beq_iff_eq, beq_eq_false_iff_ne, bne_iff_ne, bne_eq_false_iff_eq, ne_eq, Classical.not_not] at hc121
              refine wp_seq ?_
              refine wp_region_lit ?_
              refine s_val rfl rfl (v_assign rfl rfl) ?_
              refine wpList_nil ?_
              refine wp_ret ?_
              refine ret_tmp Tryz.results13 rfl ?_
              refine ⟨cx.ext, _, rfl, ?_⟩
              show (8 : Int) = chkX x
              rw [chkX_e hh hce]
              exact (entsE_at he hpast (entE_8 hnb hnr ((seen_iff hpast hgd).1 (hasK_iff.1 hc121))) (by decide)).symm
            · skip
              try simp only [Bool.and_eq_true, Bool.or_eq_true, Bool.and_eq_false_iff, Bool.or_eq_false_iff, Bool.not_eq_true', Bool.not_eq_false', decide_eq_true_eq, decide_eq_false_iff_not, beq_iff_eq, beq_eq_false_iff_ne, bne_iff_ne, bne_eq_false_iff_eq, ne_eq, Classical.not_not] at hc121
              have hnk := hasK_F hc121
              have h0 : entE x (x.ents.take i) e = 0 := entE_0 hnb hnr fun h => hnk ((seen_iff hpast hgd).2 h)
              refine wp_skip ?_
              refine wp_region_lit ?_
              refine s_val rfl rfl (v_move rfl hs4) ?_
              refine s_val rfl rfl (v_move rfl rfl) ?_
              refine s_mapSetT cx 1 rfl rfl rfl rfl rfl rfl Tryz.underlying102 Tryz.underlying9 hnod rfl hc121 ?_; intro w cx hgr19
              refine wpList_nil ?_
              refine wp_region_lit ?_
              refine s_val rfl rfl (v_add rfl hs58 rfl (by omega) (by omega)) ?_
              refine s_val rfl rfl (v_move rfl rfl) ?_
              refine wpList_nil ?_
              refine ⟨gk9 - 1, _, by omega, rfl, i + 1, b54, b1, by omega, hs1, hs4, congrArg (Value.int .i64) (lastF_take he).symm, hs56, hs57, rfl, hpast.succ he h0, ?_, ?_⟩
              · rw [keysT_snoc he]; exact nodup_keys hnod hnk
              · rw [keysT_snoc he]; exact cx.drop 1
      · skip
        try simp only [Bool.and_eq_true, Bool.or_eq_true, Bool.and_eq_false_iff, Bool.or_eq_false_iff, Bool.not_eq_true', Bool.not_eq_false', decide_eq_true_eq, decide_eq_false_iff_not, beq_iff_eq, beq_eq_false_iff_ne, bne_iff_ne, bne_eq_false_iff_eq, ne_eq, Classical.not_not] at hc59
        refine wp_exit ?_
        refine wp_seq ?_
        refine wp_region_lit ?_
        refine s_val rfl rfl (v_assign rfl rfl) ?_
        refine wpList_nil ?_
        refine wp_ret ?_
        refine ret_tmp Tryz.results13 rfl ?_
        refine ⟨cx.ext, _, rfl, ?_⟩
        show (0 : Int) = chkX x
        rw [chkX_e hh hce]
        exact (entsE_end fun j e hj he => hpast j e (by omega) he).symm

end Go.Proofs.YthiafbkolhnadaaGreatDoor
