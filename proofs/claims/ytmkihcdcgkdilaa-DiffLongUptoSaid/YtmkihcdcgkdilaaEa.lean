/-
  Contracts: lists of changes, compared.
-/
import Derived.Test.YtmkihcdcgkdilaaPc
import Derived.Test.YtmkihcdcgkdilaaSm
import Derived.Test.YtmkihcdcgkdilaaVd
namespace Go.Proofs.Ytmkihcdcgkdilaa
open Go Go.Dk Go.RowKit
set_option linter.unusedSimpArgs false
set_option linter.unusedVariables false
attribute [local irreducible] Go.wpList Go.Code.wp Go.bodyPost Go.wpStill Go.wpQuiet
set_option maxRecDepth 10000 in
set_option maxHeartbeats 3200000 in
theorem c67 (c : Ch) (r1 r2 : List Value) (w0 : World) (h1 : Chg w0 c r1) (h2 : Chg w0 c r2) (hpl : c.path.length ≤ 1048576) (hfo : Fine c.old) (hfn : Fine c.new) : Fc Try.prog 67 [.agg r1.toArray, .agg r2.toArray] w0 (IsB fun b => b = true) := by
  have hO1 := h1.form
  obtain ⟨p1, x1, y1, z1, x2, y2, z2, rfl, hq1, v1, v2, _⟩ := hO1
  have hO2 := h2.form
  obtain ⟨p2, x3, y3, z3, x4, y4, z4, rfl, hq2, v3, v4, _⟩ := hO2
  refine ret_enter Try.func67 rfl Try.ntmps67 rfl ?_
  have cx := Ctx.start w0
  refine wp_seq ?_
  refine wp_region_lit ?_
  refine s_box cx rfl rfl rfl rfl rfl ?_; intro b2 w cx hb2 hw2
  refine s_box cx rfl rfl rfl rfl rfl ?_; intro b3 w cx hb3 hw3
  refine s_val rfl rfl (v_assign rfl rfl) ?_
  refine wpList_nil ?_
  refine wp_seq ?_
  refine wp_region_lit ?_
  refine s_val rfl rfl (v_fa fa35_0 rfl rfl) ?_
  refine s_val rfl rfl (v_load1 rfl rfl Try.underlying3 rfl (cx.cell 1 rfl rfl)) ?_
  refine s_val rfl rfl (v_fa fa35_0 rfl rfl) ?_
  refine s_val rfl rfl (v_load1 rfl rfl Try.underlying3 rfl (cx.cell 0 rfl rfl)) ?_
  refine s_val rfl rfl (v_cmp rfl rfl rfl rfl) ?_
  refine s_val rfl rfl (v_move rfl rfl) ?_
  refine s_gval rfl rfl rfl (by first | exact w_tt rfl | exact w_gt rfl) (fun hc => v_fa fa35_2 rfl rfl) ?_
  refine s_gval rfl rfl rfl (by first | exact w_tt rfl | exact w_gt rfl) (fun hc => v_load1 rfl (gve hc rfl) Try.underlying3 rfl (cx.cell 1 rfl rfl)) ?_
  refine s_gval rfl rfl rfl (by first | exact w_tt rfl | exact w_gt rfl) (fun hc => v_fa fa35_2 rfl rfl) ?_
  refine s_gval rfl rfl rfl (by first | exact w_tt rfl | exact w_gt rfl) (fun hc => v_load1 rfl (gve hc rfl) Try.underlying3 rfl (cx.cell 0 rfl rfl)) ?_
  refine s_gval rfl rfl rfl (by first | exact w_tt rfl | exact w_gt rfl) (fun hc => v_cmp rfl (gve hc rfl) (gve hc rfl) rfl) ?_
  refine s_val rfl rfl (v_and rfl rfl rfl rfl) ?_
  refine s_val rfl rfl (v_move rfl rfl) ?_
  refine s_gval rfl rfl rfl (by first | exact w_tt rfl | exact w_gt rfl) (fun hc => v_fa fa35_1 rfl rfl) ?_
  refine s_gval rfl rfl rfl (by first | exact w_tt rfl | exact w_gt rfl) (fun hc => v_load1 rfl (gve hc rfl) Try.underlying24 rfl (cx.cell 1 rfl rfl)) ?_
  refine s_gval rfl rfl rfl (by first | exact w_tt rfl | exact w_gt rfl) (fun hc => v_fa fa35_1 rfl rfl) ?_
  refine s_gval rfl rfl rfl (by first | exact w_tt rfl | exact w_gt rfl) (fun hc => v_load1 rfl (gve hc rfl) Try.underlying24 rfl (cx.cell 0 rfl rfl)) ?_
  refine s_gfnB cx rfl rfl rfl (by first | exact w_tt rfl | exact w_gt rfl) (fun hc => c57 (fun b => b < w0.heap.size) c.path _ _ _ (fun b hb => Nat.lt_of_lt_of_le hb cx.ext.size) ((show PthA (fun b => b < w0.heap.size) w0 _ _ from hq1).mono (fun _ h => h) (fun b hb => cx.ext.block b hb)) ((show PthA (fun b => b < w0.heap.size) w0 _ _ from hq2).mono (fun _ h => h) (fun b hb => cx.ext.block b hb)) hpl) Try.func57 rfl rfl rfl (fun hc => (cons_eq (gve hc rfl) (cons_eq (gve hc rfl) rfl))) ?_; intro q22 w cx hw22 hp22
  refine s_val rfl rfl (v_and rfl rfl rfl rfl) ?_
  refine s_val rfl rfl (v_move rfl rfl) ?_
  refine s_gval rfl rfl rfl (by first | exact w_tt rfl | exact w_gt rfl) (fun hc => v_fa fa35_3 rfl rfl) ?_
  refine s_gval rfl rfl rfl (by first | exact w_tt rfl | exact w_gt rfl) (fun hc => v_load rfl (gve hc rfl) Try.underlying33 rfl sz33 ((cx.row 1 rfl).sub (l' := vrow c.old.sc x1 y1 z1) 3 rfl) rfl) ?_
  refine s_gval rfl rfl rfl (by first | exact w_tt rfl | exact w_gt rfl) (fun hc => v_fa fa35_3 rfl rfl) ?_
  refine s_gval rfl rfl rfl (by first | exact w_tt rfl | exact w_gt rfl) (fun hc => v_load rfl (gve hc rfl) Try.underlying33 rfl sz33 ((cx.row 0 rfl).sub (l' := vrow c.old.sc x3 y3 z3) 3 rfl) rfl) ?_
  refine s_gfnB cx rfl rfl rfl (by first | exact w_tt rfl | exact w_gt rfl) (fun hc => c22g c.old c.old _ _ _ (v1.up cx.ext) (v3.up cx.ext) hfo hfo) Try.func22 rfl rfl rfl (fun hc => (cons_eq (gve hc rfl) (cons_eq (gve hc rfl) rfl))) ?_; intro q29 w cx hw29 hp29
  refine s_val rfl rfl (v_and rfl rfl rfl rfl) ?_
  refine s_val rfl rfl (v_move rfl rfl) ?_
  refine s_gval rfl rfl rfl (by first | exact w_tt rfl | exact w_gt rfl) (fun hc => v_fa fa35_4 rfl rfl) ?_
  refine s_gval rfl rfl rfl (by first | exact w_tt rfl | exact w_gt rfl) (fun hc => v_load rfl (gve hc rfl) Try.underlying33 rfl sz33 ((cx.row 1 rfl).sub (l' := vrow c.new.sc x2 y2 z2) 16 rfl) rfl) ?_
  refine s_gval rfl rfl rfl (by first | exact w_tt rfl | exact w_gt rfl) (fun hc => v_fa fa35_4 rfl rfl) ?_
  refine s_gval rfl rfl rfl (by first | exact w_tt rfl | exact w_gt rfl) (fun hc => v_load rfl (gve hc rfl) Try.underlying33 rfl sz33 ((cx.row 0 rfl).sub (l' := vrow c.new.sc x4 y4 z4) 16 rfl) rfl) ?_
  refine s_gfnB cx rfl rfl rfl (by first | exact w_tt rfl | exact w_gt rfl) (fun hc => c22g c.new c.new _ _ _ (v2.up cx.ext) (v4.up cx.ext) hfn hfn) Try.func22 rfl rfl rfl (fun hc => (cons_eq (gve hc rfl) (cons_eq (gve hc rfl) rfl))) ?_; intro q36 w cx hw36 hp36
  refine s_val rfl rfl (v_and rfl rfl rfl rfl) ?_
  refine s_val rfl rfl (v_assign rfl rfl) ?_
  refine wpList_nil ?_
  refine wp_ret ?_
  refine ret_tmp Try.results67 rfl ?_
  refine ⟨cx.ext, _, rfl, ?_⟩
  have e1 := hp22 (by simp)
  have e2 := (hp29 (by rw [e1]; simp)).2 rfl
  have e3 := (hp36 (by rw [e1, e2]; simp)).2 rfl
  rw [e1, e2, e3]; simp

set_option maxRecDepth 10000 in
theorem c42 (l : List Ch) (s1 s2 : Value) (w0 : World) (h1 : Chs w0 s1 l) (h2 : Chs w0 s2 l) (hl : l.length ≤ 1048576) (hg : ∀ c ∈ l, c.path.length ≤ 1048576 ∧ Fine c.old ∧ Fine c.new) : Fc Try.prog 42 [s1, s2] w0 (IsB fun b => b = true) := by
  obtain ⟨a1, c1, b1, o1, rfl, hfa1, hg1⟩ := h1.form
  obtain ⟨a2, c2, b2, o2, rfl, hfa2, hg2⟩ := h2.form
  refine ret_enter Try.func42 rfl Try.ntmps42 rfl ?_
  have cx := Ctx.start w0
  refine wp_seq ?_
  refine wp_region_lit ?_
  refine s_val rfl rfl (v_assign rfl rfl) ?_
  refine wpList_nil ?_
  refine wp_seq ?_
  refine wp_seq ?_
  refine wp_region_lit ?_
  refine s_val rfl rfl (v_move rfl rfl) ?_
  refine s_val rfl rfl (v_lenSlice rfl rfl Try.underlying22) ?_
  refine s_val rfl rfl (v_move rfl rfl) ?_
  refine s_val rfl rfl (v_lenSlice rfl rfl Try.underlying22) ?_
  refine s_val rfl rfl (v_cmp rfl rfl rfl rfl) ?_
  refine wpList_nil ?_
  refine c_split rfl (fun hc10 => ?_) (fun hc10 => ?_)
  · skip
    exfalso
    simp at hc10
  · skip
    skip
    refine wp_skip ?_
    refine wp_seq ?_
    refine wp_seq ?_
    refine wp_region_lit ?_
    refine s_val rfl rfl (v_assign rfl rfl) ?_
    refine wpList_nil ?_
    refine wp_block ?_
    refine w_loop (fun k f w1 => ∃ i : Nat, k + i = l.length ∧ f 0 = .slice a1 l.length c1 ∧ f 1 = .slice a2 l.length c2 ∧ f 5 = .int .i64 i ∧ Ctx w0 w1 []) (l.length) ?_ ?_
    · skip
      exact ⟨0, by omega, rfl, rfl, rfl, cx⟩
    intro gk4 f w hJ
    obtain ⟨i, hki, hs0, hs1, hs5, cx⟩ := hJ
    refine wp_seq ?_
    refine wp_seq ?_
    refine wp_region_lit ?_
    refine s_val rfl rfl (v_move rfl hs5) ?_
    refine s_val rfl rfl (v_move rfl hs0) ?_
    refine s_val rfl rfl (v_lenSlice rfl rfl Try.underlying22) ?_
    refine s_val rfl rfl (v_cmp rfl rfl rfl rfl) ?_
    refine wpList_nil ?_
    refine c_split rfl (fun hc14 => ?_) (fun hc14 => ?_)
    · skip
      try simp only [Bool.and_eq_true, Bool.or_eq_true, Bool.and_eq_false_iff, Bool.or_eq_false_iff, Bool.not_eq_true', Bool.not_eq_false', decide_eq_true_eq, decide_eq_false_iff_not, beq_iff_eq, beq_eq_false_iff_ne, bne_iff_ne, bne_eq_false_iff_eq, ne_eq, Classical.not_not] at hc14
      have hx : l[i]? = some l[i] := List.getElem?_eq_getElem (by omega)
      obtain rfl := hfa1 (by omega)
      obtain rfl := hfa2 (by omega)
      have hx1 := hg1 i _ hx
      have hx2 := hg2 i _ hx
      obtain ⟨r1, hr1, hk1⟩ := hx1
      obtain ⟨r2, hr2, hk2⟩ := hx2
      have hn1 : r1.length = 29 := by obtain ⟨_, _, _, _, _, _, _, rfl, _⟩ := hk1.form; rfl
      have hn2 : r2.length = 29 := by obtain ⟨_, _, _, _, _, _, _, rfl, _⟩ := hk2.form; rfl
      refine wp_skip ?_
      refine wp_seq ?_
      refine wp_block ?_
      refine wp_seq ?_
      refine w_quiet cx mixed (by kernel_rfl) ?_
      skip
      refine q_val rfl rfl (fun w cx hwQ => v_move rfl hs0) ?_
      refine q_val rfl rfl (fun w cx hwQ => v_move rfl hs5) ?_
      refine q_val rfl rfl (fun w cx hwQ => v_ia Try.underlying22 sz35 rfl rfl rfl (by omega) (by omega)) ?_
      refine q_val rfl rfl (fun w cx hwQ => v_load rfl rfl Try.underlying35 rfl sz35 (hr1.up cx.ext) hn1) ?_
      refine q_val rfl rfl (fun w cx hwQ => v_move rfl hs1) ?_
      refine q_val rfl rfl (fun w cx hwQ => v_move rfl hs5) ?_
      refine q_val rfl rfl (fun w cx hwQ => v_ia Try.underlying22 sz35 rfl rfl rfl (by omega) (by omega)) ?_
      refine q_val rfl rfl (fun w cx hwQ => v_load rfl rfl Try.underlying35 rfl sz35 (hr2.up cx.ext) hn2) ?_
      refine q_call (v := .bool true) rfl rfl (runs_fn Try.func67 rfl rfl rfl rfl) (fun w cx hwQ => (c67 l[i] _ _ _ (hk1.up cx.ext) (hk2.up cx.ext) (hg _ (List.getElem_mem _)).1 (hg _ (List.getElem_mem _)).2.1 (hg _ (List.getElem_mem _)).2.2).det (b0 := true) fun b hb => hb) ?_
      refine q_val rfl rfl (fun w cx hwQ => v_not rfl rfl) ?_
      refine q_nil ?_; rintro w ⟨cx, hwQ6⟩
      refine c_split rfl (fun hc26 => ?_) (fun hc26 => ?_)
      · skip
        exfalso
        simp at hc26
      · skip
        skip
        refine wp_skip ?_
        refine wp_region_lit ?_
        refine s_val rfl rfl (v_move rfl hs5) ?_
        refine s_val rfl rfl (v_add rfl rfl rfl (by omega) (by omega)) ?_
        refine s_val rfl rfl (v_assign rfl rfl) ?_
        refine wpList_nil ?_
        exact ⟨gk4 - 1, _, by omega, rfl, i + 1, by omega, hs0, hs1, rfl, cx⟩
    · skip
      try simp only [Bool.and_eq_true, Bool.or_eq_true, Bool.and_eq_false_iff, Bool.or_eq_false_iff, Bool.not_eq_true', Bool.not_eq_false', decide_eq_true_eq, decide_eq_false_iff_not, beq_iff_eq, beq_eq_false_iff_ne, bne_iff_ne, bne_eq_false_iff_eq, ne_eq, Classical.not_not] at hc14
      refine wp_exit ?_
      refine wp_seq ?_
      refine wp_region_lit ?_
      refine s_val rfl rfl (v_assign rfl rfl) ?_
      refine wpList_nil ?_
      refine wp_ret ?_
      refine ret_tmp Try.results42 rfl ?_
      exact ⟨cx.ext, _, rfl, rfl⟩
end Go.Proofs.Ytmkihcdcgkdilaa
