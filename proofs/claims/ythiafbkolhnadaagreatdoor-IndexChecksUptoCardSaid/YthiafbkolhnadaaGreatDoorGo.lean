/-
  The nearest entry: the reference.
-/
import Derived.Test.YthiafbkolhnadaaGreatDoorGn
set_option linter.unusedSimpArgs false
set_option linter.unusedVariables false
namespace Go.Proofs.YthiafbkolhnadaaGreatDoor
open Go Go.Dk Go.RowKit Go.Lib
attribute [local irreducible] Go.wpList Go.Code.wp Go.bodyPost Go.wpStill Go.wpQuiet
set_option maxHeartbeats 4000000 in
set_option maxRecDepth 10000 in
theorem c19 (r : List Value) (x : Idx) (v : Value) (l : List Stp) (w0 : World) (hx : IdxV w0 x r) (hq : Pth w0 v l) (hs : Szd x) (hl : l.length ≤ 1048576) : Fc Tryz.prog 19 [.agg r.toArray, v] w0 (NearV (nearP x.ents l)) := by
  obtain ⟨ve, vc, rfl, hE, hC⟩ := hx
  obtain ⟨a, c, b, o, rfl, ha, hr⟩ := hE.form
  obtain ⟨a2, c2, b2, o2, rfl, _, _⟩ := hC.form
  obtain ⟨qa, qc, rfl, hqc⟩ := hq.sl
  have hel := hs.el
  refine ret_enter Tryz.func19 rfl Tryz.ntmps19 rfl ?_
  have cx := Ctx.start w0
  refine wp_seq ?_
  refine wp_region_lit ?_
  refine s_box cx rfl rfl rfl rfl rfl ?_; intro b2 w cx hb2 hw2
  refine s_alloc cx z52 rfl rfl rfl ?_; intro b4 w cx hb4 hw4
  refine s_val rfl rfl (v_assign rfl rfl) ?_
  refine wpList_nil ?_
  refine wp_seq ?_
  refine wp_seq ?_
  refine wp_region_lit ?_
  refine s_val rfl rfl (v_move rfl rfl) ?_
  refine s_val rfl rfl (v_lenSlice rfl rfl Tryz.underlying28) ?_
  refine s_val rfl rfl (v_assign rfl rfl) ?_
  refine wpList_nil ?_
  refine wp_block ?_
  refine w_loop (fun k f w1 => ∃ (n b2_ b4 : Nat), k = n ∧ n ≤ l.length ∧ nearP x.ents l = nearN x.ents l n ∧ f 1 = .slice qa l.length qc ∧ f 2 = .pointer (some ⟨b2_, 0, none⟩) ∧ f 4 = .pointer (some ⟨b4, 0, none⟩) ∧ f 6 = .int .i64 n ∧ Ctx w0 w1 [(b4, .cells ([.slice none 0 0, .int .i64 0, .int .i64 0] : List Value).toArray 52), (b2_, .cells ([.int .i64 x.fmt, .int .i64 x.size, .int .i64 x.depth, .slice a x.ents.length c, .slice a2 x.cols.length c2] : List Value).toArray 35)]) (l.length) ?_ ?_
  · skip
    exact ⟨_, _, _, rfl, Nat.le_refl _, rfl, rfl, rfl, rfl, rfl, cx⟩
  intro gk2 f w hJ
  obtain ⟨n, b2_, b4, hk, hnl, hnear, hs1, hs2, hs4, hs6, cx⟩ := hJ
  refine wp_seq ?_
  refine wp_seq ?_
  refine wp_region_lit ?_
  refine s_val rfl rfl (v_move rfl hs6) ?_
  refine s_val rfl rfl (v_cmp rfl rfl rfl rfl) ?_
  refine wpList_nil ?_
  refine c_split rfl (fun hc12 => ?_) (fun hc12 => ?_)
  · skip
    try simp only [Bool.and_eq_true, Bool.or_eq_true, Bool.and_eq_false_iff, Bool.or_eq_false_iff, Bool.not_eq_true', Bool.not_eq_false', decide_eq_true_eq, decide_eq_false_iff_not, beq_iff_eq, beq_eq_false_iff_ne, bne_iff_ne, bne_eq_false_iff_eq, ne_eq, Classical.not_not] at hc12
    have hn0 : 0 < n := by omega
    refine wp_skip ?_
    refine wp_seq ?_
    refine wp_block ?_
    refine w_cut (fun f w1 => ∃ b7 b2_ b4 : Nat, f 1 = .slice qa l.length qc ∧ f 2 = .pointer (some ⟨b2_, 0, none⟩) ∧ f 4 = .pointer (some ⟨b4, 0, none⟩) ∧ f 6 = .int .i64 n ∧ f 7 = .pointer (some ⟨b7, 0, none⟩) ∧ f 8 = .bool (lookP x.ents (l.take n)).isSome ∧ Ctx w0 w1 [(b7, .cells ([.int .i64 (lkF (lookP x.ents (l.take n))), .int .i64 (lkT (lookP x.ents (l.take n)))] : List Value).toArray 48), (b4, .cells ([.slice none 0 0, .int .i64 0, .int .i64 0] : List Value).toArray 52), (b2_, .cells ([.int .i64 x.fmt, .int .i64 x.size, .int .i64 x.depth, .slice a x.ents.length c, .slice a2 x.cols.length c2] : List Value).toArray 35)]) ?_ ?_
    · skip
      refine w_ord cx (cx.pick1 1 rfl) mixed [(0, 16), (1, 17), (2, 18), (3, 19)] #[true, true, true, true, false, false, false, false, false, false, false] (by kernel_rfl) (by kernel_rfl) (by kernel_rfl) (by kernel_rfl) ?_
      refine pu_one rfl (wnt_none rfl) (fun w cx => v_load rfl hs2 Tryz.underlying35 rfl sz35 (cx.row 0 rfl) rfl) ?_
      refine pu_one rfl (wnt_none rfl) (fun w cx => v_move rfl hs1) ?_
      refine pu_one rfl (wnt_none rfl) (fun w cx => v_move rfl hs6) ?_
      refine pu_one rfl (wnt_none rfl) (fun w cx => v_preSl rfl rfl rfl Tryz.underlying28 sz107 (by omega) (by omega)) ?_
      refine pu_nil ?_; intro w cx hwD4
      refine x_two (i := 4) (j := 8) (by kernel_rfl) rfl rfl ?_ ?_
      · skip
        refine s_fn cx (c17 _ x _ _ _ ((hx_mk hE hC).up cx.ext) ((hq.up cx.ext).take (k := n) (by omega)) hs (by rw [List.length_take]; omega)) Tryz.func17 rfl rfl rfl rfl rfl rfl ?_; intro q20 w cx hw20 hp20
        subst hp20
        unfold lookV
        refine x_next ⟨.inr (by kernel_rfl), ?_⟩
        refine x_two (i := 5) (j := 8) (by kernel_rfl) rfl rfl ?_ ?_
        · skip
          refine s_val rfl rfl (v_move rfl rfl) ?_
          refine x_next ⟨.inr (by kernel_rfl), ?_⟩
          refine x_three (i := 6) (j := 7) (m := 8) (by kernel_rfl) rfl rfl rfl ?_ ?_ ?_
          · skip
            refine s_val rfl rfl (v_extract rfl rfl rfl) ?_
            refine x_next ⟨.inr (by kernel_rfl), ?_⟩
            refine x_two (i := 7) (j := 8) (by kernel_rfl) rfl rfl ?_ ?_
            · skip
              refine s_val rfl rfl (v_extract rfl rfl rfl) ?_
              refine x_next ⟨.inr (by kernel_rfl), ?_⟩
              refine x_one (i := 8) (by kernel_rfl) rfl ?_
              refine s_alloc cx z48 rfl rfl rfl ?_; intro b7 w cx hb7 hw7
              refine x_next ⟨.inl (cx.pick1 2 rfl), ?_⟩
              refine x_one (i := 9) (by kernel_rfl) rfl ?_
              refine s_storeAll cx 0 rfl rfl rfl rfl rfl rfl sz48 rfl rfl ?_; intro w cx hwS4
              refine x_next ⟨.inr (by kernel_rfl), ?_⟩
              refine x_one (i := 10) (by kernel_rfl) rfl ?_
              refine s_val rfl rfl (v_assign rfl rfl) ?_
              refine x_next ⟨.inr (by kernel_rfl), ?_⟩
              refine x_done (by kernel_rfl) ?_
              exact ⟨_, rfl, _, b2_, b4, hs1, hs2, hs4, hs6, rfl, rfl, cx⟩
            · skip
              refine s_alloc cx z48 rfl rfl rfl ?_; intro b7 w cx hb7 hw7
              refine x_next ⟨.inl (cx.pick1 2 rfl), ?_⟩
              refine x_two (i := 7) (j := 9) (by kernel_rfl) rfl rfl ?_ ?_
              · skip
                refine s_val rfl rfl (v_extract rfl rfl rfl) ?_
                refine x_next ⟨.inr (by kernel_rfl), ?_⟩
                refine x_one (i := 9) (by kernel_rfl) rfl ?_
                refine s_storeAll cx 0 rfl rfl rfl rfl rfl rfl sz48 rfl rfl ?_; intro w cx hwS4
                refine x_next ⟨.inr (by kernel_rfl), ?_⟩
                refine x_one (i := 10) (by kernel_rfl) rfl ?_
                refine s_val rfl rfl (v_assign rfl rfl) ?_
                refine x_next ⟨.inr (by kernel_rfl), ?_⟩
                refine x_done (by kernel_rfl) ?_
                exact ⟨_, rfl, _, b2_, b4, hs1, hs2, hs4, hs6, rfl, rfl, cx⟩
              · skip
                refine s_storeAll cx 0 rfl rfl rfl rfl rfl rfl sz48 rfl rfl ?_; intro w cx hwS4
                refine x_next ⟨.inr (by kernel_rfl), ?_⟩
                refine x_one (i := 7) (by kernel_rfl) rfl ?_
                refine s_val rfl rfl (v_extract rfl rfl rfl) ?_
                refine x_next ⟨.inr (by kernel_rfl), ?_⟩
                refine x_one (i := 10) (by kernel_rfl) rfl ?_
                refine s_val rfl rfl (v_assign rfl rfl) ?_
                refine x_next ⟨.inr (by kernel_rfl), ?_⟩
                refine x_done (by kernel_rfl) ?_
                exact ⟨_, rfl, _, b2_, b4, hs1, hs2, hs4, hs6, rfl, rfl, cx⟩
          · skip
            refine s_val rfl rfl (v_extract rfl rfl rfl) ?_
            refine x_next ⟨.inr (by kernel_rfl), ?_⟩
            refine x_two (i := 6) (j := 8) (by kernel_rfl) rfl rfl ?_ ?_
            · skip
              refine s_val rfl rfl (v_extract rfl rfl rfl) ?_
              refine x_next ⟨.inr (by kernel_rfl), ?_⟩
              refine x_one (i := 8) (by kernel_rfl) rfl ?_
              refine s_alloc cx z48 rfl rfl rfl ?_; intro b7 w cx hb7 hw7
              refine x_next ⟨.inl (cx.pick1 2 rfl), ?_⟩
              refine x_one (i := 9) (by kernel_rfl) rfl ?_
              refine s_storeAll cx 0 rfl rfl rfl rfl rfl rfl sz48 rfl rfl ?_; intro w cx hwS4
              refine x_next ⟨.inr (by kernel_rfl), ?_⟩
              refine x_one (i := 10) (by kernel_rfl) rfl ?_
              refine s_val rfl rfl (v_assign rfl rfl) ?_
              refine x_next ⟨.inr (by kernel_rfl), ?_⟩
              refine x_done (by kernel_rfl) ?_
              exact ⟨_, rfl, _, b2_, b4, hs1, hs2, hs4, hs6, rfl, rfl, cx⟩
            · skip
              refine s_alloc cx z48 rfl rfl rfl ?_; intro b7 w cx hb7 hw7
              refine x_next ⟨.inl (cx.pick1 2 rfl), ?_⟩
              refine x_one (i := 6) (by kernel_rfl) rfl ?_
              refine s_val rfl rfl (v_extract rfl rfl rfl) ?_
              refine x_next ⟨.inr (by kernel_rfl), ?_⟩
              refine x_one (i := 9) (by kernel_rfl) rfl ?_
              refine s_storeAll cx 0 rfl rfl rfl rfl rfl rfl sz48 rfl rfl ?_; intro w cx hwS4
              refine x_next ⟨.inr (by kernel_rfl), ?_⟩
              refine x_one (i := 10) (by kernel_rfl) rfl ?_
              refine s_val rfl rfl (v_assign rfl rfl) ?_
              refine x_next ⟨.inr (by kernel_rfl), ?_⟩
              refine x_done (by kernel_rfl) ?_
              exact ⟨_, rfl, _, b2_, b4, hs1, hs2, hs4, hs6, rfl, rfl, cx⟩
          · skip
            refine s_alloc cx z48 rfl rfl rfl ?_; intro b7 w cx hb7 hw7
            refine x_next ⟨.inl (cx.pick1 2 rfl), ?_⟩
            refine x_two (i := 6) (j := 7) (by kernel_rfl) rfl rfl ?_ ?_
            · skip
              refine s_val rfl rfl (v_extract rfl rfl rfl) ?_
              refine x_next ⟨.inr (by kernel_rfl), ?_⟩
              refine x_two (i := 7) (j := 9) (by kernel_rfl) rfl rfl ?_ ?_
              · skip
                refine s_val rfl rfl (v_extract rfl rfl rfl) ?_
                refine x_next ⟨.inr (by kernel_rfl), ?_⟩
                refine x_one (i := 9) (by kernel_rfl) rfl ?_
                refine s_storeAll cx 0 rfl rfl rfl rfl rfl rfl sz48 rfl rfl ?_; intro w cx hwS4
                refine x_next ⟨.inr (by kernel_rfl), ?_⟩
                refine x_one (i := 10) (by kernel_rfl) rfl ?_
                refine s_val rfl rfl (v_assign rfl rfl) ?_
                refine x_next ⟨.inr (by kernel_rfl), ?_⟩
                refine x_done (by kernel_rfl) ?_
                exact ⟨_, rfl, _, b2_, b4, hs1, hs2, hs4, hs6, rfl, rfl, cx⟩
              · skip
                refine s_storeAll cx 0 rfl rfl rfl rfl rfl rfl sz48 rfl rfl ?_; intro w cx hwS4
                refine x_next ⟨.inr (by kernel_rfl), ?_⟩
                refine x_one (i := 7) (by kernel_rfl) rfl ?_
                refine s_val rfl rfl (v_extract rfl rfl rfl) ?_
                refine x_next ⟨.inr (by kernel_rfl), ?_⟩
                refine x_one (i := 10) (by kernel_rfl) rfl ?_
                refine s_val rfl rfl (v_assign rfl rfl) ?_
                refine x_next ⟨.inr (by kernel_rfl), ?_⟩
                refine x_done (by kernel_rfl) ?_
                exact ⟨_, rfl, _, b2_, b4, hs1, hs2, hs4, hs6, rfl, rfl, cx⟩
            · skip
              refine s_val rfl rfl (v_extract rfl rfl rfl) ?_
              refine x_next ⟨.inr (by kernel_rfl), ?_⟩
              refine x_one (i := 6) (by kernel_rfl) rfl ?_
              refine s_val rfl rfl (v_extract rfl rfl rfl) ?_
              refine x_next ⟨.inr (by kernel_rfl), ?_⟩
              refine x_one (i := 9) (by kernel_rfl) rfl ?_
              refine s_storeAll cx 0 rfl rfl rfl rfl rfl rfl sz48 rfl rfl ?_; intro w cx hwS4
              refine x_next ⟨.inr (by kernel_rfl), ?_⟩
              refine x_one (i := 10) (by kernel_rfl) rfl ?_
              refine s_val rfl rfl (v_assign rfl rfl) ?_
              refine x_next ⟨.inr (by kernel_rfl), ?_⟩
              refine x_done (by kernel_rfl) ?_
              exact ⟨_, rfl, _, b2_, b4, hs1, hs2, hs4, hs6, rfl, rfl, cx⟩
        · skip
          refine s_alloc cx z48 rfl rfl rfl ?_; intro b7 w cx hb7 hw7
          refine x_next ⟨.inl (cx.pick1 2 rfl), ?_⟩
          refine x_one (i := 5) (by kernel_rfl) rfl ?_
          refine s_val rfl rfl (v_move rfl rfl) ?_
          refine x_next ⟨.inr (by kernel_rfl), ?_⟩
          refine x_two (i := 6) (j := 7) (by kernel_rfl) rfl rfl ?_ ?_
          · skip
            refine s_val rfl rfl (v_extract rfl rfl rfl) ?_
            refine x_next ⟨.inr (by kernel_rfl), ?_⟩
            refine x_two (i := 7) (j := 9) (by kernel_rfl) rfl rfl ?_ ?_
            · skip
              refine s_val rfl rfl (v_extract rfl rfl rfl) ?_
              refine x_next ⟨.inr (by kernel_rfl), ?_⟩
              refine x_one (i := 9) (by kernel_rfl) rfl ?_
              refine s_storeAll cx 0 rfl rfl rfl rfl rfl rfl sz48 rfl rfl ?_; intro w cx hwS4
              refine x_next ⟨.inr (by kernel_rfl), ?_⟩
              refine x_one (i := 10) (by kernel_rfl) rfl ?_
              refine s_val rfl rfl (v_assign rfl rfl) ?_
              refine x_next ⟨.inr (by kernel_rfl), ?_⟩
              refine x_done (by kernel_rfl) ?_
              exact ⟨_, rfl, _, b2_, b4, hs1, hs2, hs4, hs6, rfl, rfl, cx⟩
            · skip
              refine s_storeAll cx 0 rfl rfl rfl rfl rfl rfl sz48 rfl rfl ?_; intro w cx hwS4
              refine x_next ⟨.inr (by kernel_rfl), ?_⟩
              refine x_one (i := 7) (by kernel_rfl) rfl ?_
              refine s_val rfl rfl (v_extract rfl rfl rfl) ?_
              refine x_next ⟨.inr (by kernel_rfl), ?_⟩
              refine x_one (i := 10) (by kernel_rfl) rfl ?_
              refine s_val rfl rfl (v_assign rfl rfl) ?_
              refine x_next ⟨.inr (by kernel_rfl), ?_⟩
              refine x_done (by kernel_rfl) ?_
              exact ⟨_, rfl, _, b2_, b4, hs1, hs2, hs4, hs6, rfl, rfl, cx⟩
          · skip
            refine s_val rfl rfl (v_extract rfl rfl rfl) ?_
            refine x_next ⟨.inr (by kernel_rfl), ?_⟩
            refine x_one (i := 6) (by kernel_rfl) rfl ?_
            refine s_val rfl rfl (v_extract rfl rfl rfl) ?_
            refine x_next ⟨.inr (by kernel_rfl), ?_⟩
            refine x_one (i := 9) (by kernel_rfl) rfl ?_
            refine s_storeAll cx 0 rfl rfl rfl rfl rfl rfl sz48 rfl rfl ?_; intro w cx hwS4
            refine x_next ⟨.inr (by kernel_rfl), ?_⟩
            refine x_one (i := 10) (by kernel_rfl) rfl ?_
            refine s_val rfl rfl (v_assign rfl rfl) ?_
            refine x_next ⟨.inr (by kernel_rfl), ?_⟩
            refine x_done (by kernel_rfl) ?_
            exact ⟨_, rfl, _, b2_, b4, hs1, hs2, hs4, hs6, rfl, rfl, cx⟩
      · skip
        refine s_alloc cx z48 rfl rfl rfl ?_; intro b7 w cx hb7 hw7
        refine x_next ⟨.inl (cx.pick1 2 rfl), ?_⟩
        refine x_one (i := 4) (by kernel_rfl) rfl ?_
        refine s_fn cx (c17 _ x _ _ _ ((hx_mk hE hC).up cx.ext) ((hq.up cx.ext).take (k := n) (by omega)) hs (by rw [List.length_take]; omega)) Tryz.func17 rfl rfl rfl rfl rfl rfl ?_; intro q20 w cx hw20 hp20
        subst hp20
        unfold lookV
        refine x_next ⟨.inr (by kernel_rfl), ?_⟩
        refine x_one (i := 5) (by kernel_rfl) rfl ?_
        refine s_val rfl rfl (v_move rfl rfl) ?_
        refine x_next ⟨.inr (by kernel_rfl), ?_⟩
        refine x_two (i := 6) (j := 7) (by kernel_rfl) rfl rfl ?_ ?_
        · skip
          refine s_val rfl rfl (v_extract rfl rfl rfl) ?_
          refine x_next ⟨.inr (by kernel_rfl), ?_⟩
          refine x_two (i := 7) (j := 9) (by kernel_rfl) rfl rfl ?_ ?_
          · skip
            refine s_val rfl rfl (v_extract rfl rfl rfl) ?_
            refine x_next ⟨.inr (by kernel_rfl), ?_⟩
            refine x_one (i := 9) (by kernel_rfl) rfl ?_
            refine s_storeAll cx 0 rfl rfl rfl rfl rfl rfl sz48 rfl rfl ?_; intro w cx hwS4
            refine x_next ⟨.inr (by kernel_rfl), ?_⟩
            refine x_one (i := 10) (by kernel_rfl) rfl ?_
            refine s_val rfl rfl (v_assign rfl rfl) ?_
            refine x_next ⟨.inr (by kernel_rfl), ?_⟩
            refine x_done (by kernel_rfl) ?_
            exact ⟨_, rfl, _, b2_, b4, hs1, hs2, hs4, hs6, rfl, rfl, cx⟩
          · skip
            refine s_storeAll cx 0 rfl rfl rfl rfl rfl rfl sz48 rfl rfl ?_; intro w cx hwS4
            refine x_next ⟨.inr (by kernel_rfl), ?_⟩
            refine x_one (i := 7) (by kernel_rfl) rfl ?_
            refine s_val rfl rfl (v_extract rfl rfl rfl) ?_
            refine x_next ⟨.inr (by kernel_rfl), ?_⟩
            refine x_one (i := 10) (by kernel_rfl) rfl ?_
            refine s_val rfl rfl (v_assign rfl rfl) ?_
            refine x_next ⟨.inr (by kernel_rfl), ?_⟩
            refine x_done (by kernel_rfl) ?_
            exact ⟨_, rfl, _, b2_, b4, hs1, hs2, hs4, hs6, rfl, rfl, cx⟩
        · skip
          refine s_val rfl rfl (v_extract rfl rfl rfl) ?_
          refine x_next ⟨.inr (by kernel_rfl), ?_⟩
          refine x_one (i := 6) (by kernel_rfl) rfl ?_
          refine s_val rfl rfl (v_extract rfl rfl rfl) ?_
          refine x_next ⟨.inr (by kernel_rfl), ?_⟩
          refine x_one (i := 9) (by kernel_rfl) rfl ?_
          refine s_storeAll cx 0 rfl rfl rfl rfl rfl rfl sz48 rfl rfl ?_; intro w cx hwS4
          refine x_next ⟨.inr (by kernel_rfl), ?_⟩
          refine x_one (i := 10) (by kernel_rfl) rfl ?_
          refine s_val rfl rfl (v_assign rfl rfl) ?_
          refine x_next ⟨.inr (by kernel_rfl), ?_⟩
          refine x_done (by kernel_rfl) ?_
          exact ⟨_, rfl, _, b2_, b4, hs1, hs2, hs4, hs6, rfl, rfl, cx⟩
    intro f w hJ
    obtain ⟨b7, b2_, b4, hs1, hs2, hs4, hs6, hs7, hs8, cx⟩ := hJ
    refine wp_seq ?_
    refine wp_region_lit ?_
    refine s_val rfl rfl (v_move rfl hs8) ?_
    refine wpList_nil ?_
    refine c_split rfl (fun hc23 => ?_) (fun hc23 => ?_)
    · skip
      try simp only [Bool.and_eq_true, Bool.or_eq_true, Bool.and_eq_false_iff, Bool.or_eq_false_iff, Bool.not_eq_true', Bool.not_eq_false', decide_eq_true_eq, decide_eq_false_iff_not, beq_iff_eq, beq_eq_false_iff_ne, bne_iff_ne, bne_eq_false_iff_eq, ne_eq, Classical.not_not] at hc23
      refine wp_seq ?_
      refine w_ord cx (cx.pick1 0 rfl) mixed [(0, 24), (1, 25), (2, 26), (3, 27), (4, 28)] #[true, true, true, true, true, false, false] (by kernel_rfl) (by kernel_rfl) (by kernel_rfl) (by kernel_rfl) ?_
      refine pu_one rfl (wnt_none rfl) (fun w cx => v_move rfl hs1) ?_
      refine pu_one rfl (wnt_none rfl) (fun w cx => v_move rfl hs6) ?_
      refine pu_one rfl (wnt_none rfl) (fun w cx => v_preSl rfl rfl rfl Tryz.underlying28 sz107 (by omega) (by omega)) ?_
      refine pu_one rfl (wnt_none rfl) (fun w cx => v_load rfl hs7 Tryz.underlying48 rfl sz48 (cx.row 0 rfl) rfl) ?_
      refine pu_one rfl (wnt_none rfl) (fun w cx => v_build (qs := [(0, .slice qa n qc), (1, .agg #[.int .i64 (lkF (lookP x.ents (l.take n))), .int .i64 (lkT (lookP x.ents (l.take n)))])]) (bd52f _ _ _ _ _) rfl rfl) ?_
      refine pu_nil ?_; intro w cx hwD6
      refine x_one (i := 5) (by kernel_rfl) rfl ?_
      refine s_storeAll cx 1 rfl rfl rfl hs4 rfl rfl sz52 rfl rfl ?_; intro w cx hwS6
      refine x_next ⟨.inr (by kernel_rfl), ?_⟩
      refine x_one (i := 6) (by kernel_rfl) rfl ?_
      refine s_val rfl rfl (v_assign rfl rfl) ?_
      refine x_next ⟨.inr (by kernel_rfl), ?_⟩
      refine x_done (by kernel_rfl) ?_
      refine wp_ret ?_
      refine ret_cell2 Tryz.results19 hs4 rfl (cx.at 1 rfl) Tryz.underlying52 rfl sz52 ?_
      obtain ⟨e, hlk⟩ := Option.isSome_iff_exists.1 hc23
      have hn : nearP x.ents l = some e := hnear.trans (nearN_some hn0 hlk)
      refine ⟨cx.ext, ?_⟩
      rw [hn]
      have hpe := lookP_path hlk
      refine ⟨_, congrArg (fun o : Option Ent => Value.tuple #[.agg #[_, .int .i64 (lkF o), .int .i64 (lkT o)], .bool true]) hlk, ?_⟩
      show Pth _ _ e.path
      rw [hpe]
      exact (hq.up cx.ext).take (by omega)
    · skip
      try simp only [Bool.and_eq_true, Bool.or_eq_true, Bool.and_eq_false_iff, Bool.or_eq_false_iff, Bool.not_eq_true', Bool.not_eq_false', decide_eq_true_eq, decide_eq_false_iff_not, beq_iff_eq, beq_eq_false_iff_ne, bne_iff_ne, bne_eq_false_iff_eq, ne_eq, Classical.not_not] at hc23
      refine wp_skip ?_
      refine wp_region_lit ?_
      refine s_val rfl rfl (v_move rfl hs6) ?_
      refine s_val rfl rfl (v_sub rfl rfl rfl (by omega) (by omega)) ?_
      refine s_val rfl rfl (v_assign rfl rfl) ?_
      refine wpList_nil ?_
      have hlk : lookP x.ents (l.take n) = none := by simpa using hc23
      refine ⟨gk2 - 1, _, by omega, rfl, n - 1, b2_, b4, by omega, by omega, hnear.trans (nearN_none hn0 hlk), hs1, hs2, hs4, congrArg (Value.int .i64) (by omega), cx.drop 1⟩
  · skip
    try simp only [Bool.and_eq_true, Bool.or_eq_true, Bool.and_eq_false_iff, Bool.or_eq_false_iff, Bool.not_eq_true', Bool.not_eq_false', decide_eq_true_eq, decide_eq_false_iff_not, beq_iff_eq, beq_eq_false_iff_ne, bne_iff_ne, bne_eq_false_iff_eq, ne_eq, Classical.not_not] at hc12
    refine wp_exit ?_
    refine wp_seq ?_
    refine wp_region_lit ?_
    refine s_val rfl rfl (v_build bd52 rfl rfl) ?_
    refine s_storeAll cx 0 rfl rfl rfl hs4 rfl rfl sz52 rfl rfl ?_; intro w cx hwS7
    refine s_val rfl rfl (v_assign rfl rfl) ?_
    refine wpList_nil ?_
    refine wp_ret ?_
    refine ret_cell2 Tryz.results19 hs4 rfl (cx.at 0 rfl) Tryz.underlying52 rfl sz52 ?_
    have hz : n = 0 := by omega
    subst hz
    refine ⟨cx.ext, ?_⟩
    rw [hnear]
    exact ⟨_, rfl, pth_nil _⟩

end Go.Proofs.YthiafbkolhnadaaGreatDoor
