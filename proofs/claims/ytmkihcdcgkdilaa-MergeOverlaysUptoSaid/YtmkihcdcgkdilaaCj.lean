/-
  Contract: the law MergeOverlays.
-/
import Derived.Test.YtmkihcdcgkdilaaCi
import Derived.Test.YtmkihcdcgkdilaaCb
namespace Go.Proofs.Ytmkihcdcgkdilaa
open Go Go.Dk Go.RowKit
set_option linter.unusedSimpArgs false
set_option linter.unusedVariables false
attribute [local irreducible] Go.wpList Go.Code.wp Go.bodyPost Go.wpStill
set_option maxRecDepth 10000 in
theorem c4 (bv ov : V) (rb ro : List Value) (w0 : World) (hb : Val w0 bv rb) (ho : Val w0 ov ro) (hfb : Fine bv) (hfo : Fine ov) (hgood : ∀ v, okd 48 v → deep 60 v → tsz 60 v ≤ 100 → Fine v → Gd 48 100 v) : Fc Try.prog 4 [.agg rb.toArray, .agg ro.toArray] w0 (IsB fun b => b = true) := by
  refine ret_enter Try.func4 rfl Try.ntmps4 rfl ?_
  have cx := Ctx.start w0
  refine wp_seq ?_
  refine wp_region_lit ?_
  refine s_box cx rfl rfl rfl rfl rfl ?_; intro b2 w cx hb2 hw2
  refine s_box cx rfl rfl rfl rfl rfl ?_; intro b3 w cx hb3 hw3
  refine s_val rfl rfl (v_assign rfl rfl) ?_
  refine wpList_nil ?_
  refine wp_seq ?_
  refine wp_seq ?_
  refine wp_region_lit ?_
  refine s_val rfl rfl (v_load rfl rfl Try.underlying33 rfl sz33 (cx.row 1 rfl) hb.len) ?_
  refine s_fnB cx (c20 _ _ _ (hb.up cx.ext) hfb) Try.func20 rfl rfl rfl rfl rfl rfl ?_; intro q7 w cx hw7 hp7
  refine s_val rfl rfl (v_not rfl rfl) ?_
  refine s_val rfl rfl (v_move rfl rfl) ?_
  refine s_gval rfl rfl rfl (by first | exact w_ff rfl | exact w_gf rfl) (fun hc => v_load rfl rfl Try.underlying33 rfl sz33 (cx.row 0 rfl) ho.len) ?_
  refine s_gfnB cx rfl rfl rfl (by first | exact w_ff rfl | exact w_gf rfl) (fun hc => c20 _ _ _ (ho.up cx.ext) hfo) Try.func20 rfl rfl rfl (fun hc => (cons_eq (gve hc rfl) rfl)) ?_; intro q11 w cx hw11 hp11
  refine s_gval rfl rfl rfl (by first | exact w_ff rfl | exact w_gf rfl) (fun hc => v_not rfl (by first | exact gve hc rfl | exact gve (and_l hc) rfl | exact gve (and_l (and_l hc)) rfl | rfl)) ?_
  refine s_val rfl rfl (v_or rfl rfl rfl rfl) ?_
  refine wpList_nil ?_
  refine c_split rfl (fun hc13 => ?_) (fun hc13 => ?_)
  · skip
    try simp only [Bool.and_eq_true, Bool.or_eq_true, Bool.and_eq_false_iff, Bool.or_eq_false_iff, Bool.not_eq_true', Bool.not_eq_false', decide_eq_true_eq, decide_eq_false_iff_not, beq_iff_eq, beq_eq_false_iff_ne, bne_iff_ne, bne_eq_false_iff_eq, ne_eq, Classical.not_not] at hc13
    refine wp_seq ?_
    refine wp_region_lit ?_
    refine s_val rfl rfl (v_assign rfl rfl) ?_
    refine wpList_nil ?_
    refine wp_ret ?_
    refine ret_tmp Try.results4 rfl ?_
    exact ⟨cx.ext, _, rfl, rfl⟩
  · skip
    try simp only [Bool.and_eq_true, Bool.or_eq_true, Bool.and_eq_false_iff, Bool.or_eq_false_iff, Bool.not_eq_true', Bool.not_eq_false', decide_eq_true_eq, decide_eq_false_iff_not, beq_iff_eq, beq_eq_false_iff_ne, bne_iff_ne, bne_eq_false_iff_eq, ne_eq, Classical.not_not] at hc13
    obtain ⟨h71, h72⟩ := hc13
    subst h71
    have h71' := hp7 rfl
    have hgb := hgood bv h71'.1 h71'.2.1 h71'.2.2 hfb
    have h72' := hp11 rfl (by simpa using h72)
    have hgo := hgood ov h72'.1 h72'.2.1 h72'.2.2 hfo
    have hga := (gd_ovl 48 48 100 100 bv ov hgb hgo (by omega) (by omega)).1
    have hid := ovl_idem 48 48 bv ov hgo.ok hgb.ok
    refine wp_skip ?_
    refine wp_seq ?_
    refine wp_region_lit ?_
    refine s_val rfl rfl (v_load rfl rfl Try.underlying33 rfl sz33 (cx.row 1 rfl) hb.len) ?_
    refine s_val rfl rfl (v_load rfl rfl Try.underlying33 rfl sz33 (cx.row 0 rfl) ho.len) ?_
    have cxc := cx
    refine s_fn cx (c21 48 100 100 bv ov _ _ _ hgb hgo (by omega) (by omega) (hb.up cx.ext) (ho.up cx.ext)) Try.func21 rfl rfl rfl rfl rfl rfl ?_; intro q16 w cx hw16 hp16
    obtain ⟨r16, rfl, hm16⟩ := hp16.rep
    have ha := RepV.mono (A' := fun b => b < w.heap.size) (fun b hb => hb.2) (fun _ _ => rfl) _ _ hm16
    refine s_alloc cx z33 rfl rfl rfl ?_; intro b5 w cx hb5 hw5
    have hl5 := Nat.le_of_eq hb5
    refine s_storeAllG cx 0 rfl rfl rfl rfl rfl rfl (by rw [hm16.len]; exact sz33) (by rw [hm16.len]; rfl) hm16.one ?_; intro w cx hg5
    have ha5 : Val w (ovl 48 bv ov) r16 := RepV.mono (fun b hb => Nat.lt_of_lt_of_le hb.2 (((Kp.fr hw16).below hw5).later hg5 hl5).sz) (((Kp.fr hw16).below hw5).later hg5 hl5).kp _ _ hm16
    refine wpList_nil ?_
    refine wp_seq ?_
    refine w_ord cx (cx.noR) mixed [(0, 17), (1, 18), (2, 19)] #[true, true, true, false, false, false, false, false, false, false, false, false, false] (by kernel_rfl) (by kernel_rfl) (by kernel_rfl) (by kernel_rfl) ?_
    refine pu_one rfl (wnt_none rfl) (fun w cx => v_load rfl rfl Try.underlying33 rfl sz33 (cx.row 0 rfl) ha.len) ?_
    refine pu_one rfl (wnt_none rfl) (fun w cx => v_load rfl rfl Try.underlying33 rfl sz33 (cx.row 2 rfl) hb.len) ?_
    refine pu_one rfl (wnt_none rfl) (fun w cx => v_load rfl rfl Try.underlying33 rfl sz33 (cx.row 1 rfl) ho.len) ?_
    refine pu_nil ?_; intro w cx hwD4
    replace ha5 := ha5.up hwD4
    refine x_one (i := 3) (by kernel_rfl) rfl ?_
    have cxd := cx
    refine s_fn cx (c23 48 100 100 bv ov _ _ (fun b => b < w0.heap.size) _ hgb hgo (by omega) (by omega) (fun b hb => Nat.lt_of_lt_of_le hb cx.ext.size) (RepV.mono (fun _ h => h) (fun b hb => cx.ext.block b hb) _ _ hb) (RepV.mono (fun _ h => h) (fun b hb => cx.ext.block b hb) _ _ ho)) Try.func23 rfl rfl rfl rfl rfl rfl ?_; intro q20 w cx hw20 hp20
    obtain ⟨r20, rfl, hm20⟩ := hp20
    have hv20 : Val w (ovl 48 bv ov) r20 := RepV.mono (by rintro b (h | h); exact Nat.lt_of_lt_of_le h cx.ext.size; exact h.2) (fun _ _ => rfl) _ _ hm20
    replace ha5 := ha5.up hw20
    refine x_next ⟨.inl (cx.noR), ?_⟩
    refine x_one (i := 4) (by kernel_rfl) rfl ?_
    refine s_fnB cx (c22 (ovl 48 bv ov) _ _ _ ha5 hv20 hga.fine) Try.func22 rfl rfl rfl rfl rfl rfl ?_; intro q21 w cx hw21 hp21
    subst hp21
    replace ha5 := ha5.up hw21
    refine x_next ⟨.inr (by kernel_rfl), ?_⟩
    refine x_one (i := 5) (by kernel_rfl) rfl ?_
    refine s_val rfl rfl (v_move rfl rfl) ?_
    refine x_next ⟨.inr (by kernel_rfl), ?_⟩
    refine x_three (i := 6) (j := 7) (m := 9) (by kernel_rfl) rfl rfl rfl ?_ ?_ ?_
    · skip
      refine s_gval rfl rfl rfl (by first | exact w_tt rfl | exact w_gt rfl) (fun hc => v_load rfl rfl Try.underlying33 rfl sz33 (cx.row 0 rfl) ha.len) ?_
      refine x_next ⟨.inr (by kernel_rfl), ?_⟩
      refine x_two (i := 7) (j := 9) (by kernel_rfl) rfl rfl ?_ ?_
      · skip
        refine s_gval rfl rfl rfl (by first | exact w_tt rfl | exact w_gt rfl) (fun hc => v_load rfl rfl Try.underlying33 rfl sz33 (cx.row 1 rfl) ho.len) ?_
        refine x_next ⟨.inr (by kernel_rfl), ?_⟩
        refine x_two (i := 8) (j := 9) (by kernel_rfl) rfl rfl ?_ ?_
        · skip
          refine s_gfn cx rfl rfl rfl (w_tt rfl) (fun hc => c21 48 200 100 (ovl 48 bv ov) ov _ _ _ hga hgo (by omega) (by omega) ha5 (ho.up cx.ext)) Try.func21 rfl rfl rfl (fun hc => cons_eq (gve hc rfl) (cons_eq (gve hc rfl) rfl)) ?_; intro q25 w cx hw25 hp25
          obtain ⟨r25, rfl, hm25⟩ := (hp25 rfl).rep
          rw [hid] at hm25
          have hv25 : Val w (ovl 48 bv ov) r25 := RepV.mono (fun b h => h.2) (fun _ _ => rfl) _ _ hm25
          replace ha5 := ha5.up hw25
          refine x_next ⟨.inr (by kernel_rfl), ?_⟩
          refine x_one (i := 9) (by kernel_rfl) rfl ?_
          refine s_gval rfl rfl rfl (by first | exact w_tt rfl | exact w_gt rfl) (fun hc => v_load rfl rfl Try.underlying33 rfl sz33 (cx.row 0 rfl) ha.len) ?_
          refine x_next ⟨.inr (by kernel_rfl), ?_⟩
          refine x_one (i := 10) (by kernel_rfl) rfl ?_
          refine s_gfnB cx rfl rfl rfl (w_tt rfl) (fun hc => c22 (ovl 48 bv ov) _ _ _ hv25 ha5 hga.fine) Try.func22 rfl rfl rfl (fun hc => cons_eq (gve hc rfl) (cons_eq (gve hc rfl) rfl)) ?_; intro q27 w cx hw27 hp27
          refine x_next ⟨.inr (by kernel_rfl), ?_⟩
          refine x_one (i := 11) (by kernel_rfl) rfl ?_
          refine s_val rfl rfl (v_and rfl rfl rfl rfl) ?_
          refine x_next ⟨.inr (by kernel_rfl), ?_⟩
          refine x_one (i := 12) (by kernel_rfl) rfl ?_
          refine s_val rfl rfl (v_assign rfl rfl) ?_
          refine x_next ⟨.inr (by kernel_rfl), ?_⟩
          refine x_done (by kernel_rfl) ?_
          refine wp_ret ?_
          refine ret_tmp Try.results4 rfl ?_
          exact ⟨cx.ext, _, rfl, by first | rfl | (rw [hp27 rfl]; rfl) | simp [hp27]⟩
        · skip
          refine s_gval rfl rfl rfl (by first | exact w_tt rfl | exact w_gt rfl) (fun hc => v_load rfl rfl Try.underlying33 rfl sz33 (cx.row 0 rfl) ha.len) ?_
          refine x_next ⟨.inr (by kernel_rfl), ?_⟩
          refine x_one (i := 8) (by kernel_rfl) rfl ?_
          refine s_gfn cx rfl rfl rfl (w_tt rfl) (fun hc => c21 48 200 100 (ovl 48 bv ov) ov _ _ _ hga hgo (by omega) (by omega) ha5 (ho.up cx.ext)) Try.func21 rfl rfl rfl (fun hc => cons_eq (gve hc rfl) (cons_eq (gve hc rfl) rfl)) ?_; intro q25 w cx hw25 hp25
          obtain ⟨r25, rfl, hm25⟩ := (hp25 rfl).rep
          rw [hid] at hm25
          have hv25 : Val w (ovl 48 bv ov) r25 := RepV.mono (fun b h => h.2) (fun _ _ => rfl) _ _ hm25
          replace ha5 := ha5.up hw25
          refine x_next ⟨.inr (by kernel_rfl), ?_⟩
          refine x_one (i := 10) (by kernel_rfl) rfl ?_
          refine s_gfnB cx rfl rfl rfl (w_tt rfl) (fun hc => c22 (ovl 48 bv ov) _ _ _ hv25 ha5 hga.fine) Try.func22 rfl rfl rfl (fun hc => cons_eq (gve hc rfl) (cons_eq (gve hc rfl) rfl)) ?_; intro q27 w cx hw27 hp27
          refine x_next ⟨.inr (by kernel_rfl), ?_⟩
          refine x_one (i := 11) (by kernel_rfl) rfl ?_
          refine s_val rfl rfl (v_and rfl rfl rfl rfl) ?_
          refine x_next ⟨.inr (by kernel_rfl), ?_⟩
          refine x_one (i := 12) (by kernel_rfl) rfl ?_
          refine s_val rfl rfl (v_assign rfl rfl) ?_
          refine x_next ⟨.inr (by kernel_rfl), ?_⟩
          refine x_done (by kernel_rfl) ?_
          refine wp_ret ?_
          refine ret_tmp Try.results4 rfl ?_
          exact ⟨cx.ext, _, rfl, by first | rfl | (rw [hp27 rfl]; rfl) | simp [hp27]⟩
      · skip
        refine s_gval rfl rfl rfl (by first | exact w_tt rfl | exact w_gt rfl) (fun hc => v_load rfl rfl Try.underlying33 rfl sz33 (cx.row 0 rfl) ha.len) ?_
        refine x_next ⟨.inr (by kernel_rfl), ?_⟩
        refine x_one (i := 7) (by kernel_rfl) rfl ?_
        refine s_gval rfl rfl rfl (by first | exact w_tt rfl | exact w_gt rfl) (fun hc => v_load rfl rfl Try.underlying33 rfl sz33 (cx.row 1 rfl) ho.len) ?_
        refine x_next ⟨.inr (by kernel_rfl), ?_⟩
        refine x_one (i := 8) (by kernel_rfl) rfl ?_
        refine s_gfn cx rfl rfl rfl (w_tt rfl) (fun hc => c21 48 200 100 (ovl 48 bv ov) ov _ _ _ hga hgo (by omega) (by omega) ha5 (ho.up cx.ext)) Try.func21 rfl rfl rfl (fun hc => cons_eq (gve hc rfl) (cons_eq (gve hc rfl) rfl)) ?_; intro q25 w cx hw25 hp25
        obtain ⟨r25, rfl, hm25⟩ := (hp25 rfl).rep
        rw [hid] at hm25
        have hv25 : Val w (ovl 48 bv ov) r25 := RepV.mono (fun b h => h.2) (fun _ _ => rfl) _ _ hm25
        replace ha5 := ha5.up hw25
        refine x_next ⟨.inr (by kernel_rfl), ?_⟩
        refine x_one (i := 10) (by kernel_rfl) rfl ?_
        refine s_gfnB cx rfl rfl rfl (w_tt rfl) (fun hc => c22 (ovl 48 bv ov) _ _ _ hv25 ha5 hga.fine) Try.func22 rfl rfl rfl (fun hc => cons_eq (gve hc rfl) (cons_eq (gve hc rfl) rfl)) ?_; intro q27 w cx hw27 hp27
        refine x_next ⟨.inr (by kernel_rfl), ?_⟩
        refine x_one (i := 11) (by kernel_rfl) rfl ?_
        refine s_val rfl rfl (v_and rfl rfl rfl rfl) ?_
        refine x_next ⟨.inr (by kernel_rfl), ?_⟩
        refine x_one (i := 12) (by kernel_rfl) rfl ?_
        refine s_val rfl rfl (v_assign rfl rfl) ?_
        refine x_next ⟨.inr (by kernel_rfl), ?_⟩
        refine x_done (by kernel_rfl) ?_
        refine wp_ret ?_
        refine ret_tmp Try.results4 rfl ?_
        exact ⟨cx.ext, _, rfl, by first | rfl | (rw [hp27 rfl]; rfl) | simp [hp27]⟩
    · skip
      refine s_gval rfl rfl rfl (by first | exact w_tt rfl | exact w_gt rfl) (fun hc => v_load rfl rfl Try.underlying33 rfl sz33 (cx.row 1 rfl) ho.len) ?_
      refine x_next ⟨.inr (by kernel_rfl), ?_⟩
      refine x_two (i := 6) (j := 9) (by kernel_rfl) rfl rfl ?_ ?_
      · skip
        refine s_gval rfl rfl rfl (by first | exact w_tt rfl | exact w_gt rfl) (fun hc => v_load rfl rfl Try.underlying33 rfl sz33 (cx.row 0 rfl) ha.len) ?_
        refine x_next ⟨.inr (by kernel_rfl), ?_⟩
        refine x_two (i := 8) (j := 9) (by kernel_rfl) rfl rfl ?_ ?_
        · skip
          refine s_gfn cx rfl rfl rfl (w_tt rfl) (fun hc => c21 48 200 100 (ovl 48 bv ov) ov _ _ _ hga hgo (by omega) (by omega) ha5 (ho.up cx.ext)) Try.func21 rfl rfl rfl (fun hc => cons_eq (gve hc rfl) (cons_eq (gve hc rfl) rfl)) ?_; intro q25 w cx hw25 hp25
          obtain ⟨r25, rfl, hm25⟩ := (hp25 rfl).rep
          rw [hid] at hm25
          have hv25 : Val w (ovl 48 bv ov) r25 := RepV.mono (fun b h => h.2) (fun _ _ => rfl) _ _ hm25
          replace ha5 := ha5.up hw25
          refine x_next ⟨.inr (by kernel_rfl), ?_⟩
          refine x_one (i := 9) (by kernel_rfl) rfl ?_
          refine s_gval rfl rfl rfl (by first | exact w_tt rfl | exact w_gt rfl) (fun hc => v_load rfl rfl Try.underlying33 rfl sz33 (cx.row 0 rfl) ha.len) ?_
          refine x_next ⟨.inr (by kernel_rfl), ?_⟩
          refine x_one (i := 10) (by kernel_rfl) rfl ?_
          refine s_gfnB cx rfl rfl rfl (w_tt rfl) (fun hc => c22 (ovl 48 bv ov) _ _ _ hv25 ha5 hga.fine) Try.func22 rfl rfl rfl (fun hc => cons_eq (gve hc rfl) (cons_eq (gve hc rfl) rfl)) ?_; intro q27 w cx hw27 hp27
          refine x_next ⟨.inr (by kernel_rfl), ?_⟩
          refine x_one (i := 11) (by kernel_rfl) rfl ?_
          refine s_val rfl rfl (v_and rfl rfl rfl rfl) ?_
          refine x_next ⟨.inr (by kernel_rfl), ?_⟩
          refine x_one (i := 12) (by kernel_rfl) rfl ?_
          refine s_val rfl rfl (v_assign rfl rfl) ?_
          refine x_next ⟨.inr (by kernel_rfl), ?_⟩
          refine x_done (by kernel_rfl) ?_
          refine wp_ret ?_
          refine ret_tmp Try.results4 rfl ?_
          exact ⟨cx.ext, _, rfl, by first | rfl | (rw [hp27 rfl]; rfl) | simp [hp27]⟩
        · skip
          refine s_gval rfl rfl rfl (by first | exact w_tt rfl | exact w_gt rfl) (fun hc => v_load rfl rfl Try.underlying33 rfl sz33 (cx.row 0 rfl) ha.len) ?_
          refine x_next ⟨.inr (by kernel_rfl), ?_⟩
          refine x_one (i := 8) (by kernel_rfl) rfl ?_
          refine s_gfn cx rfl rfl rfl (w_tt rfl) (fun hc => c21 48 200 100 (ovl 48 bv ov) ov _ _ _ hga hgo (by omega) (by omega) ha5 (ho.up cx.ext)) Try.func21 rfl rfl rfl (fun hc => cons_eq (gve hc rfl) (cons_eq (gve hc rfl) rfl)) ?_; intro q25 w cx hw25 hp25
          obtain ⟨r25, rfl, hm25⟩ := (hp25 rfl).rep
          rw [hid] at hm25
          have hv25 : Val w (ovl 48 bv ov) r25 := RepV.mono (fun b h => h.2) (fun _ _ => rfl) _ _ hm25
          replace ha5 := ha5.up hw25
          refine x_next ⟨.inr (by kernel_rfl), ?_⟩
          refine x_one (i := 10) (by kernel_rfl) rfl ?_
          refine s_gfnB cx rfl rfl rfl (w_tt rfl) (fun hc => c22 (ovl 48 bv ov) _ _ _ hv25 ha5 hga.fine) Try.func22 rfl rfl rfl (fun hc => cons_eq (gve hc rfl) (cons_eq (gve hc rfl) rfl)) ?_; intro q27 w cx hw27 hp27
          refine x_next ⟨.inr (by kernel_rfl), ?_⟩
          refine x_one (i := 11) (by kernel_rfl) rfl ?_
          refine s_val rfl rfl (v_and rfl rfl rfl rfl) ?_
          refine x_next ⟨.inr (by kernel_rfl), ?_⟩
          refine x_one (i := 12) (by kernel_rfl) rfl ?_
          refine s_val rfl rfl (v_assign rfl rfl) ?_
          refine x_next ⟨.inr (by kernel_rfl), ?_⟩
          refine x_done (by kernel_rfl) ?_
          refine wp_ret ?_
          refine ret_tmp Try.results4 rfl ?_
          exact ⟨cx.ext, _, rfl, by first | rfl | (rw [hp27 rfl]; rfl) | simp [hp27]⟩
      · skip
        refine s_gval rfl rfl rfl (by first | exact w_tt rfl | exact w_gt rfl) (fun hc => v_load rfl rfl Try.underlying33 rfl sz33 (cx.row 0 rfl) ha.len) ?_
        refine x_next ⟨.inr (by kernel_rfl), ?_⟩
        refine x_one (i := 6) (by kernel_rfl) rfl ?_
        refine s_gval rfl rfl rfl (by first | exact w_tt rfl | exact w_gt rfl) (fun hc => v_load rfl rfl Try.underlying33 rfl sz33 (cx.row 0 rfl) ha.len) ?_
        refine x_next ⟨.inr (by kernel_rfl), ?_⟩
        refine x_one (i := 8) (by kernel_rfl) rfl ?_
        refine s_gfn cx rfl rfl rfl (w_tt rfl) (fun hc => c21 48 200 100 (ovl 48 bv ov) ov _ _ _ hga hgo (by omega) (by omega) ha5 (ho.up cx.ext)) Try.func21 rfl rfl rfl (fun hc => cons_eq (gve hc rfl) (cons_eq (gve hc rfl) rfl)) ?_; intro q25 w cx hw25 hp25
        obtain ⟨r25, rfl, hm25⟩ := (hp25 rfl).rep
        rw [hid] at hm25
        have hv25 : Val w (ovl 48 bv ov) r25 := RepV.mono (fun b h => h.2) (fun _ _ => rfl) _ _ hm25
        replace ha5 := ha5.up hw25
        refine x_next ⟨.inr (by kernel_rfl), ?_⟩
        refine x_one (i := 10) (by kernel_rfl) rfl ?_
        refine s_gfnB cx rfl rfl rfl (w_tt rfl) (fun hc => c22 (ovl 48 bv ov) _ _ _ hv25 ha5 hga.fine) Try.func22 rfl rfl rfl (fun hc => cons_eq (gve hc rfl) (cons_eq (gve hc rfl) rfl)) ?_; intro q27 w cx hw27 hp27
        refine x_next ⟨.inr (by kernel_rfl), ?_⟩
        refine x_one (i := 11) (by kernel_rfl) rfl ?_
        refine s_val rfl rfl (v_and rfl rfl rfl rfl) ?_
        refine x_next ⟨.inr (by kernel_rfl), ?_⟩
        refine x_one (i := 12) (by kernel_rfl) rfl ?_
        refine s_val rfl rfl (v_assign rfl rfl) ?_
        refine x_next ⟨.inr (by kernel_rfl), ?_⟩
        refine x_done (by kernel_rfl) ?_
        refine wp_ret ?_
        refine ret_tmp Try.results4 rfl ?_
        exact ⟨cx.ext, _, rfl, by first | rfl | (rw [hp27 rfl]; rfl) | simp [hp27]⟩
    · skip
      refine s_gval rfl rfl rfl (by first | exact w_tt rfl | exact w_gt rfl) (fun hc => v_load rfl rfl Try.underlying33 rfl sz33 (cx.row 0 rfl) ha.len) ?_
      refine x_next ⟨.inr (by kernel_rfl), ?_⟩
      refine x_two (i := 6) (j := 7) (by kernel_rfl) rfl rfl ?_ ?_
      · skip
        refine s_gval rfl rfl rfl (by first | exact w_tt rfl | exact w_gt rfl) (fun hc => v_load rfl rfl Try.underlying33 rfl sz33 (cx.row 0 rfl) ha.len) ?_
        refine x_next ⟨.inr (by kernel_rfl), ?_⟩
        refine x_one (i := 7) (by kernel_rfl) rfl ?_
        refine s_gval rfl rfl rfl (by first | exact w_tt rfl | exact w_gt rfl) (fun hc => v_load rfl rfl Try.underlying33 rfl sz33 (cx.row 1 rfl) ho.len) ?_
        refine x_next ⟨.inr (by kernel_rfl), ?_⟩
        refine x_one (i := 8) (by kernel_rfl) rfl ?_
        refine s_gfn cx rfl rfl rfl (w_tt rfl) (fun hc => c21 48 200 100 (ovl 48 bv ov) ov _ _ _ hga hgo (by omega) (by omega) ha5 (ho.up cx.ext)) Try.func21 rfl rfl rfl (fun hc => cons_eq (gve hc rfl) (cons_eq (gve hc rfl) rfl)) ?_; intro q25 w cx hw25 hp25
        obtain ⟨r25, rfl, hm25⟩ := (hp25 rfl).rep
        rw [hid] at hm25
        have hv25 : Val w (ovl 48 bv ov) r25 := RepV.mono (fun b h => h.2) (fun _ _ => rfl) _ _ hm25
        replace ha5 := ha5.up hw25
        refine x_next ⟨.inr (by kernel_rfl), ?_⟩
        refine x_one (i := 10) (by kernel_rfl) rfl ?_
        refine s_gfnB cx rfl rfl rfl (w_tt rfl) (fun hc => c22 (ovl 48 bv ov) _ _ _ hv25 ha5 hga.fine) Try.func22 rfl rfl rfl (fun hc => cons_eq (gve hc rfl) (cons_eq (gve hc rfl) rfl)) ?_; intro q27 w cx hw27 hp27
        refine x_next ⟨.inr (by kernel_rfl), ?_⟩
        refine x_one (i := 11) (by kernel_rfl) rfl ?_
        refine s_val rfl rfl (v_and rfl rfl rfl rfl) ?_
        refine x_next ⟨.inr (by kernel_rfl), ?_⟩
        refine x_one (i := 12) (by kernel_rfl) rfl ?_
        refine s_val rfl rfl (v_assign rfl rfl) ?_
        refine x_next ⟨.inr (by kernel_rfl), ?_⟩
        refine x_done (by kernel_rfl) ?_
        refine wp_ret ?_
        refine ret_tmp Try.results4 rfl ?_
        exact ⟨cx.ext, _, rfl, by first | rfl | (rw [hp27 rfl]; rfl) | simp [hp27]⟩
      · skip
        refine s_gval rfl rfl rfl (by first | exact w_tt rfl | exact w_gt rfl) (fun hc => v_load rfl rfl Try.underlying33 rfl sz33 (cx.row 1 rfl) ho.len) ?_
        refine x_next ⟨.inr (by kernel_rfl), ?_⟩
        refine x_one (i := 6) (by kernel_rfl) rfl ?_
        refine s_gval rfl rfl rfl (by first | exact w_tt rfl | exact w_gt rfl) (fun hc => v_load rfl rfl Try.underlying33 rfl sz33 (cx.row 0 rfl) ha.len) ?_
        refine x_next ⟨.inr (by kernel_rfl), ?_⟩
        refine x_one (i := 8) (by kernel_rfl) rfl ?_
        refine s_gfn cx rfl rfl rfl (w_tt rfl) (fun hc => c21 48 200 100 (ovl 48 bv ov) ov _ _ _ hga hgo (by omega) (by omega) ha5 (ho.up cx.ext)) Try.func21 rfl rfl rfl (fun hc => cons_eq (gve hc rfl) (cons_eq (gve hc rfl) rfl)) ?_; intro q25 w cx hw25 hp25
        obtain ⟨r25, rfl, hm25⟩ := (hp25 rfl).rep
        rw [hid] at hm25
        have hv25 : Val w (ovl 48 bv ov) r25 := RepV.mono (fun b h => h.2) (fun _ _ => rfl) _ _ hm25
        replace ha5 := ha5.up hw25
        refine x_next ⟨.inr (by kernel_rfl), ?_⟩
        refine x_one (i := 10) (by kernel_rfl) rfl ?_
        refine s_gfnB cx rfl rfl rfl (w_tt rfl) (fun hc => c22 (ovl 48 bv ov) _ _ _ hv25 ha5 hga.fine) Try.func22 rfl rfl rfl (fun hc => cons_eq (gve hc rfl) (cons_eq (gve hc rfl) rfl)) ?_; intro q27 w cx hw27 hp27
        refine x_next ⟨.inr (by kernel_rfl), ?_⟩
        refine x_one (i := 11) (by kernel_rfl) rfl ?_
        refine s_val rfl rfl (v_and rfl rfl rfl rfl) ?_
        refine x_next ⟨.inr (by kernel_rfl), ?_⟩
        refine x_one (i := 12) (by kernel_rfl) rfl ?_
        refine s_val rfl rfl (v_assign rfl rfl) ?_
        refine x_next ⟨.inr (by kernel_rfl), ?_⟩
        refine x_done (by kernel_rfl) ?_
        refine wp_ret ?_
        refine ret_tmp Try.results4 rfl ?_
        exact ⟨cx.ext, _, rfl, by first | rfl | (rw [hp27 rfl]; rfl) | simp [hp27]⟩
end Go.Proofs.Ytmkihcdcgkdilaa
