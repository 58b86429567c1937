/-
  Several texts in one: Rt, Rz, S0, Rd, Tb, Qc
-/
import Derived.Test.YthiafbkolhnadaaGreatDoorTG
import Derived.ProofKit
import Derived.Test.YthiafbkolhnadaaGreatDoorRows
import Derived.Lib.LaidU8
import Derived.MakeChecks
import Derived.KernelRfl
import Derived.Test.YthiafbkolhnadaaGreatDoorCards
import Derived.Test.YthiafbkolhnadaaGreatDoorTie
import Derived.WalkKit
import Derived.OpenShut
import Derived.JoinedCond
import Derived.Deep.DeepHandedRow
import Derived.Lay
import Derived.SevenTiedAt
import Derived.Shelf.Vars
section
set_option linter.unusedSimpArgs false
set_option linter.unusedVariables false
namespace Go.Proofs.YthiafbkolhnadaaGreatDoor
open Go Go.Dk Go.RowKit Go.Lib
attribute [local irreducible] Go.wpList Go.Code.wp Go.bodyPost Go.wpStill Go.wpQuiet
set_option maxHeartbeats 4000000 in
set_option maxRecDepth 10000 in
theorem c21 (r : List Value) (x : Idx) (w0 : World) (hx : IdxV w0 x r) (ht : Tabs w0) (hs : Szd x) : Fc Tryz.prog 21 [.agg r.toArray] w0 (fun v _ => v = .tuple #[.string (bs (txtO x)), .int .i64 (chkX x)]) := by
  have hX := hx
  obtain ⟨ve, vc, rfl, hE, hC⟩ := hx
  obtain ⟨a, c, b, o, rfl, ha, hr⟩ := hE.form
  obtain ⟨a2, c2, b2, o2, rfl, ha2, hr2⟩ := hC.form
  have hel := hs.el
  have hcl := hs.cl
  refine ret_enter Tryz.func21 rfl Tryz.ntmps21 rfl ?_
  have cx := Ctx.start w0
  refine wp_seq ?_
  refine wp_region_lit ?_
  refine s_box cx rfl rfl rfl rfl rfl ?_; intro b1 w cx hb1 hw1
  refine s_val rfl rfl (v_assign rfl rfl) ?_
  refine s_val rfl rfl (v_assign rfl rfl) ?_
  refine wpList_nil ?_
  refine wp_seq ?_
  refine wp_seq ?_
  refine wp_region_lit ?_
  refine s_val rfl rfl (v_load rfl rfl Tryz.underlying35 rfl sz35 (cx.row 0 rfl) rfl) ?_
  refine s_fnI cx (c13 _ x _ (hX.up cx.ext) (ht.up cx.ext) hs) Tryz.func13 rfl rfl rfl rfl rfl rfl ?_; intro q14 w cx hw14 hp14
  subst hp14
  refine s_val rfl rfl (v_assign rfl rfl) ?_
  refine wpList_nil ?_
  refine wp_seq ?_
  refine wp_region_lit ?_
  refine s_val rfl rfl (v_move rfl rfl) ?_
  refine s_val rfl rfl (v_cmp rfl rfl rfl rfl) ?_
  refine wpList_nil ?_
  refine c_split rfl (fun hc16 => ?_) (fun hc16 => ?_)
  · skip
    try simp only [Bool.and_eq_true, Bool.or_eq_true, Bool.and_eq_false_iff, Bool.or_eq_false_iff, Bool.not_eq_true', Bool.not_eq_false', decide_eq_true_eq, decide_eq_false_iff_not, beq_iff_eq, beq_eq_false_iff_ne, bne_iff_ne, bne_eq_false_iff_eq, ne_eq, Classical.not_not] at hc16
    refine wp_seq ?_
    refine wp_region_lit ?_
    refine s_val rfl rfl (v_move rfl rfl) ?_
    refine s_val rfl rfl (v_assign rfl rfl) ?_
    refine s_val rfl rfl (v_assign rfl rfl) ?_
    refine wpList_nil ?_
    refine wp_ret ?_
    refine ret_tmp2 Tryz.results21 rfl rfl ?_
    refine ⟨cx.ext, congrArg (fun l => Value.tuple #[Value.string (bs l), Value.int .i64 (chkX x)]) ?_⟩
    exact (txtO_n hc16).symm
  · skip
    try simp only [Bool.and_eq_true, Bool.or_eq_true, Bool.and_eq_false_iff, Bool.or_eq_false_iff, Bool.not_eq_true', Bool.not_eq_false', decide_eq_true_eq, decide_eq_false_iff_not, beq_iff_eq, beq_eq_false_iff_ne, bne_iff_ne, bne_eq_false_iff_eq, ne_eq, Classical.not_not] at hc16
    have hchk := hc16
    obtain ⟨hfm, hsz0, hsz1, hdp0, hdp1⟩ := chk_hdr hchk
    have hil1 := itoa_le hsz0 hsz1
    have hil2 := itoa_le (n := x.depth) (by omega) (by omega)
    have hnl : (nameT x.fmt).length ≤ 5 := by unfold nameT; split <;> simp
    have hhl := hdrT_len hchk
    refine wp_skip ?_
    refine wp_seq ?_
    refine wp_region_lit ?_
    refine s_val rfl rfl (v_assign rfl rfl) ?_
    refine wpList_nil ?_
    refine w_cut (fun f w1 => ∃ b1 : Nat, f 1 = .pointer (some ⟨b1, 0, none⟩) ∧ f 5 = .string (bs (nameT x.fmt)) ∧ Ctx w0 w1 [(b1, .cells ([.int .i64 x.fmt, .int .i64 x.size, .int .i64 x.depth, .slice a x.ents.length c, .slice a2 x.cols.length c2] : List Value).toArray 35)]) ?_ ?_
    · skip
      refine wp_seq ?_
      refine wp_region_lit ?_
      refine s_val rfl rfl (v_fa fa35_0 rfl rfl) ?_
      refine s_val rfl rfl (v_load1 rfl rfl Tryz.underlying3 rfl (cx.cell 0 rfl rfl)) ?_
      refine s_val rfl rfl (v_cmp rfl rfl rfl rfl) ?_
      refine wpList_nil ?_
      refine c_split rfl (fun hc20 => ?_) (fun hc20 => ?_)
      · skip
        try simp only [Bool.and_eq_true, Bool.or_eq_true, Bool.and_eq_false_iff, Bool.or_eq_false_iff, Bool.not_eq_true', Bool.not_eq_false', decide_eq_true_eq, decide_eq_false_iff_not, beq_iff_eq, beq_eq_false_iff_ne, bne_iff_ne, bne_eq_false_iff_eq, ne_eq, Classical.not_not] at hc20
        refine wp_region_lit ?_
        refine s_val rfl rfl (v_assign rfl rfl) ?_
        refine wpList_nil ?_
        first | exact ⟨_, rfl, _, rfl, congrArg (fun l => Value.string (bs l)) (show _ = nameT x.fmt by unfold nameT; rw [if_pos hc20]), cx⟩ | exact ⟨_, rfl, _, rfl, congrArg (fun l => Value.string (bs l)) (show _ = nameT x.fmt by unfold nameT; rw [if_neg hc20]), cx⟩
      · skip
        try simp only [Bool.and_eq_true, Bool.or_eq_true, Bool.and_eq_false_iff, Bool.or_eq_false_iff, Bool.not_eq_true', Bool.not_eq_false', decide_eq_true_eq, decide_eq_false_iff_not, beq_iff_eq, beq_eq_false_iff_ne, bne_iff_ne, bne_eq_false_iff_eq, ne_eq, Classical.not_not] at hc20
        refine wp_skip ?_
        first | exact ⟨_, rfl, _, rfl, congrArg (fun l => Value.string (bs l)) (show _ = nameT x.fmt by unfold nameT; rw [if_pos hc20]), cx⟩ | exact ⟨_, rfl, _, rfl, congrArg (fun l => Value.string (bs l)) (show _ = nameT x.fmt by unfold nameT; rw [if_neg hc20]), cx⟩
    intro f w hJ
    obtain ⟨b1, hs1, hs5, cx⟩ := hJ
    refine w_cut (fun f w1 => ∃ (b1 g cap n : Nat) (cur : Array Value) (fz : Nat × Nat), f 1 = .pointer (some ⟨b1, 0, none⟩) ∧ f 6 = .slice (some ⟨g, 0, none⟩) n cap ∧ Ctx w0 w1 [(g, .cells cur 5 fz), (b1, .cells ([.int .i64 x.fmt, .int .i64 x.size, .int .i64 x.depth, .slice a x.ents.length c, .slice a2 x.cols.length c2] : List Value).toArray 35)] ∧ Outs cur fz n cap (hdrT x ++ [10])) ?_ ?_
    · skip
      refine w_ord cx (cx.pick1 0 rfl) mixed [(0, 21), (1, 22), (2, 23), (3, 24), (4, 25), (8, 29), (9, 30)] #[true, true, true, true, true, false, false, false, true, true, false, false, false, false, false] (by kernel_rfl) (by kernel_rfl) (by kernel_rfl) (by kernel_rfl) ?_
      refine pu_one rfl (wnt_none rfl) (fun w cx => v_move rfl hs5) ?_
      refine pu_one rfl (wnt_none rfl) (fun w cx => v_strAddB (a := [105, 110, 100, 101, 120, 32]) (b := nameT x.fmt) rfl rfl rfl (by (try simp only [List.length_append, List.length_cons, List.length_nil]); omega)) ?_
      refine pu_one rfl (wnt_none rfl) (fun w cx => v_strAddB (a := ([105, 110, 100, 101, 120, 32] ++ nameT x.fmt)) (b := [32]) rfl rfl rfl (by (try simp only [List.length_append, List.length_cons, List.length_nil]); omega)) ?_
      refine pu_one rfl (wnt_none rfl) (fun w cx => v_fa fa35_1 rfl hs1) ?_
      refine pu_one rfl (wnt_none rfl) (fun w cx => v_load1 rfl rfl Tryz.underlying3 rfl (cx.cell 0 rfl rfl)) ?_
      refine pu_one rfl (wnt_none rfl) (fun w cx => v_fa fa35_2 rfl hs1) ?_
      refine pu_one rfl (wnt_none rfl) (fun w cx => v_load1 rfl rfl Tryz.underlying3 rfl (cx.cell 0 rfl rfl)) ?_
      refine pu_nil ?_; intro w cx hwD7
      refine x_one (i := 5) (by kernel_rfl) rfl ?_
      refine s_fn cx (c47 _ _ (ht.up cx.ext) (by omega) (by omega)) Tryz.func47 rfl rfl rfl rfl rfl rfl ?_; intro q26 w cx hw26 hp26
      subst hp26
      refine x_next ⟨.inl (cx.pick1 0 rfl), ?_⟩
      refine x_two (i := 6) (j := 10) (by kernel_rfl) rfl rfl ?_ ?_
      · skip
        refine s_val rfl rfl (v_strAddB (a := (([105, 110, 100, 101, 120, 32] ++ nameT x.fmt) ++ [32])) (b := itoa x.size) rfl rfl rfl (by (try simp only [List.length_append, List.length_cons, List.length_nil]); omega)) ?_
        refine x_next ⟨.inl (cx.pick1 0 rfl), ?_⟩
        refine x_two (i := 7) (j := 10) (by kernel_rfl) rfl rfl ?_ ?_
        · skip
          refine s_val rfl rfl (v_strAddB (a := ((([105, 110, 100, 101, 120, 32] ++ nameT x.fmt) ++ [32]) ++ itoa x.size)) (b := [32]) rfl rfl rfl (by (try simp only [List.length_append, List.length_cons, List.length_nil]); omega)) ?_
          refine x_next ⟨.inl (cx.pick1 0 rfl), ?_⟩
          refine x_one (i := 10) (by kernel_rfl) rfl ?_
          refine s_fn cx (c47 _ _ (ht.up cx.ext) (by omega) (by omega)) Tryz.func47 rfl rfl rfl rfl rfl rfl ?_; intro q31 w cx hw31 hp31
          subst hp31
          refine x_next ⟨.inl (cx.pick1 0 rfl), ?_⟩
          refine x_one (i := 11) (by kernel_rfl) rfl ?_
          refine s_val rfl rfl (v_strAddB (a := (((([105, 110, 100, 101, 120, 32] ++ nameT x.fmt) ++ [32]) ++ itoa x.size) ++ [32])) (b := itoa x.depth) rfl rfl rfl (by (try simp only [List.length_append, List.length_cons, List.length_nil]); omega)) ?_
          refine x_next ⟨.inr (by kernel_rfl), ?_⟩
          refine x_one (i := 12) (by kernel_rfl) rfl ?_
          refine s_val rfl rfl (v_strAddB (a := ((((([105, 110, 100, 101, 120, 32] ++ nameT x.fmt) ++ [32]) ++ itoa x.size) ++ [32]) ++ itoa x.depth)) (b := [10]) rfl rfl rfl (by (try simp only [List.length_append, List.length_cons, List.length_nil]); omega)) ?_
          refine x_next ⟨.inr (by kernel_rfl), ?_⟩
          refine x_one (i := 13) (by kernel_rfl) rfl ?_
          refine s_s2b cx (by (try simp only [List.length_append, List.length_cons, List.length_nil]); omega) Tryz.underlying9 Tryz.underlying79 Tryz.underlying5 rfl rfl rfl rfl ?_; intro g cur fz cap w cx hO
          refine x_next ⟨.inr (by kernel_rfl), ?_⟩
          refine x_one (i := 14) (by kernel_rfl) rfl ?_
          refine s_val rfl rfl (v_assign rfl rfl) ?_
          refine x_next ⟨.inr (by kernel_rfl), ?_⟩
          refine x_done (by kernel_rfl) ?_
          exact ⟨_, rfl, _, _, _, _, _, _, hs1, rfl, cx, hO⟩
        · skip
          refine s_fn cx (c47 _ _ (ht.up cx.ext) (by omega) (by omega)) Tryz.func47 rfl rfl rfl rfl rfl rfl ?_; intro q31 w cx hw31 hp31
          subst hp31
          refine x_next ⟨.inl (cx.pick1 0 rfl), ?_⟩
          refine x_one (i := 7) (by kernel_rfl) rfl ?_
          refine s_val rfl rfl (v_strAddB (a := ((([105, 110, 100, 101, 120, 32] ++ nameT x.fmt) ++ [32]) ++ itoa x.size)) (b := [32]) rfl rfl rfl (by (try simp only [List.length_append, List.length_cons, List.length_nil]); omega)) ?_
          refine x_next ⟨.inl (cx.pick1 0 rfl), ?_⟩
          refine x_one (i := 11) (by kernel_rfl) rfl ?_
          refine s_val rfl rfl (v_strAddB (a := (((([105, 110, 100, 101, 120, 32] ++ nameT x.fmt) ++ [32]) ++ itoa x.size) ++ [32])) (b := itoa x.depth) rfl rfl rfl (by (try simp only [List.length_append, List.length_cons, List.length_nil]); omega)) ?_
          refine x_next ⟨.inr (by kernel_rfl), ?_⟩
          refine x_one (i := 12) (by kernel_rfl) rfl ?_
          refine s_val rfl rfl (v_strAddB (a := ((((([105, 110, 100, 101, 120, 32] ++ nameT x.fmt) ++ [32]) ++ itoa x.size) ++ [32]) ++ itoa x.depth)) (b := [10]) rfl rfl rfl (by (try simp only [List.length_append, List.length_cons, List.length_nil]); omega)) ?_
          refine x_next ⟨.inr (by kernel_rfl), ?_⟩
          refine x_one (i := 13) (by kernel_rfl) rfl ?_
          refine s_s2b cx (by (try simp only [List.length_append, List.length_cons, List.length_nil]); omega) Tryz.underlying9 Tryz.underlying79 Tryz.underlying5 rfl rfl rfl rfl ?_; intro g cur fz cap w cx hO
          refine x_next ⟨.inr (by kernel_rfl), ?_⟩
          refine x_one (i := 14) (by kernel_rfl) rfl ?_
          refine s_val rfl rfl (v_assign rfl rfl) ?_
          refine x_next ⟨.inr (by kernel_rfl), ?_⟩
          refine x_done (by kernel_rfl) ?_
          exact ⟨_, rfl, _, _, _, _, _, _, hs1, rfl, cx, hO⟩
      · skip
        refine s_fn cx (c47 _ _ (ht.up cx.ext) (by omega) (by omega)) Tryz.func47 rfl rfl rfl rfl rfl rfl ?_; intro q31 w cx hw31 hp31
        subst hp31
        refine x_next ⟨.inl (cx.pick1 0 rfl), ?_⟩
        refine x_one (i := 6) (by kernel_rfl) rfl ?_
        refine s_val rfl rfl (v_strAddB (a := (([105, 110, 100, 101, 120, 32] ++ nameT x.fmt) ++ [32])) (b := itoa x.size) rfl rfl rfl (by (try simp only [List.length_append, List.length_cons, List.length_nil]); omega)) ?_
        refine x_next ⟨.inl (cx.pick1 0 rfl), ?_⟩
        refine x_one (i := 7) (by kernel_rfl) rfl ?_
        refine s_val rfl rfl (v_strAddB (a := ((([105, 110, 100, 101, 120, 32] ++ nameT x.fmt) ++ [32]) ++ itoa x.size)) (b := [32]) rfl rfl rfl (by (try simp only [List.length_append, List.length_cons, List.length_nil]); omega)) ?_
        refine x_next ⟨.inl (cx.pick1 0 rfl), ?_⟩
        refine x_one (i := 11) (by kernel_rfl) rfl ?_
        refine s_val rfl rfl (v_strAddB (a := (((([105, 110, 100, 101, 120, 32] ++ nameT x.fmt) ++ [32]) ++ itoa x.size) ++ [32])) (b := itoa x.depth) rfl rfl rfl (by (try simp only [List.length_append, List.length_cons, List.length_nil]); omega)) ?_
        refine x_next ⟨.inr (by kernel_rfl), ?_⟩
        refine x_one (i := 12) (by kernel_rfl) rfl ?_
        refine s_val rfl rfl (v_strAddB (a := ((((([105, 110, 100, 101, 120, 32] ++ nameT x.fmt) ++ [32]) ++ itoa x.size) ++ [32]) ++ itoa x.depth)) (b := [10]) rfl rfl rfl (by (try simp only [List.length_append, List.length_cons, List.length_nil]); omega)) ?_
        refine x_next ⟨.inr (by kernel_rfl), ?_⟩
        refine x_one (i := 13) (by kernel_rfl) rfl ?_
        refine s_s2b cx (by (try simp only [List.length_append, List.length_cons, List.length_nil]); omega) Tryz.underlying9 Tryz.underlying79 Tryz.underlying5 rfl rfl rfl rfl ?_; intro g cur fz cap w cx hO
        refine x_next ⟨.inr (by kernel_rfl), ?_⟩
        refine x_one (i := 14) (by kernel_rfl) rfl ?_
        refine s_val rfl rfl (v_assign rfl rfl) ?_
        refine x_next ⟨.inr (by kernel_rfl), ?_⟩
        refine x_done (by kernel_rfl) ?_
        exact ⟨_, rfl, _, _, _, _, _, _, hs1, rfl, cx, hO⟩
    intro f w hJ
    obtain ⟨b1, g, cap, n, cur, fz, hs1, hs6, cx, hO⟩ := hJ
    refine wp_seq ?_
    refine wp_seq ?_
    refine wp_region_lit ?_
    refine s_val rfl rfl (v_fa fa35_4 rfl hs1) ?_
    refine s_val rfl rfl (v_load1 rfl rfl Tryz.underlying33 rfl (cx.cell 1 rfl rfl)) ?_
    refine s_val rfl rfl (v_lenSlice rfl rfl Tryz.underlying33) ?_
    refine s_val rfl rfl (v_move rfl rfl) ?_
    refine wpList_nil ?_
    refine wp_block ?_
    refine w_loop (fun k f w1 => ∃ (i b1 g cap n : Nat) (cur : Array Value) (fz : Nat × Nat), k + i = x.cols.length ∧ f 1 = .pointer (some ⟨b1, 0, none⟩) ∧ f 6 = .slice (some ⟨g, 0, none⟩) n cap ∧ f 36 = .slice a2 x.cols.length c2 ∧ f 37 = .int .i64 x.cols.length ∧ f 38 = .int .i64 i ∧ Ctx w0 w1 [(g, .cells cur 5 fz), (b1, .cells ([.int .i64 x.fmt, .int .i64 x.size, .int .i64 x.depth, .slice a x.ents.length c, .slice a2 x.cols.length c2] : List Value).toArray 35)] ∧ Outs cur fz n cap (textC x i)) (x.cols.length) ?_ ?_
    · skip
      exact ⟨0, b1, g, cap, n, cur, fz, by omega, hs1, hs6, rfl, rfl, rfl, cx, by rw [textC_zero]; exact hO⟩
    intro gk9 f w hJ
    obtain ⟨i, b1, g, cap, n, cur, fz, hk, hs1, hs6, hs36, hs37, hs38, cx, hO⟩ := hJ
    have hOn := hO.2.1
    refine wp_seq ?_
    refine wp_region_lit ?_
    refine s_val rfl rfl (v_cmp rfl hs38 hs37 rfl) ?_
    refine wpList_nil ?_
    refine wp_seq ?_
    refine c_split rfl (fun hc39 => ?_) (fun hc39 => ?_)
    · skip
      try simp only [Bool.and_eq_true, Bool.or_eq_true, Bool.and_eq_false_iff, Bool.or_eq_false_iff, Bool.not_eq_true', Bool.not_eq_false', decide_eq_true_eq, decide_eq_false_iff_not, beq_iff_eq, beq_eq_false_iff_ne, bne_iff_ne, bne_eq_false_iff_eq, ne_eq, Classical.not_not] at hc39
      obtain ⟨y, hy⟩ : ∃ y, x.cols[i]? = some y := ⟨x.cols[i]'(by omega), List.getElem?_eq_getElem _⟩
      have hrw := hr2 i y hy
      obtain rfl := ha2 (by omega)
      obtain ⟨hyv, hyc⟩ := chk_cols hchk y (List.mem_of_getElem? hy)
      have hyl := cqt_len hyc
      have htl := textC_len hchk i (by omega)
      refine wp_skip ?_
      refine wp_seq ?_
      refine wp_block ?_
      refine wp_seq ?_
      refine wp_region_lit ?_
      refine s_val rfl rfl (v_ia Tryz.underlying33 sz9 rfl hs36 hs38 (by omega) (by omega)) ?_
      refine s_val rfl rfl (v_load1 rfl rfl Tryz.underlying9 rfl ((hrw.up cx.ext).cell 0 rfl)) ?_
      refine s_val rfl rfl (v_assign rfl rfl) ?_
      refine wpList_nil ?_
      refine wp_seq ?_
      refine wp_region_lit ?_
      refine s_val rfl rfl (v_move rfl rfl) ?_
      refine s_val rfl rfl (v_build (qs := [(0, .int .i64 4), (4, .string y)]) (bd83 y) rfl rfl) ?_
      refine s_fn cx (c48 y _ hyv hyc) Tryz.func48 rfl rfl rfl rfl rfl rfl ?_; intro q45 w cx hw45 hp45
      subst hp45
      refine s_val rfl rfl (v_move rfl rfl) ?_
      refine s_val rfl rfl (v_extract rfl rfl rfl) ?_
      refine s_val rfl rfl (v_extract rfl rfl rfl) ?_
      refine s_val rfl rfl (v_assign rfl rfl) ?_
      refine s_val rfl rfl (v_assign rfl rfl) ?_
      refine wpList_nil ?_
      refine wp_region_lit ?_
      refine s_val rfl rfl (v_move rfl hs6) ?_
      refine s_val rfl rfl (v_move rfl rfl) ?_
      refine s_val rfl rfl (v_strAddB (a := [99, 111, 108, 117, 109, 110, 32]) (b := cqt y) rfl rfl rfl (by (try simp only [List.length_append, List.length_cons, List.length_nil]); omega)) ?_
      refine s_val rfl rfl (v_strAddB (a := ([99, 111, 108, 117, 109, 110, 32] ++ cqt y)) (b := [10]) rfl rfl rfl (by (try simp only [List.length_append, List.length_cons, List.length_nil]); omega)) ?_
      refine s_appL cx hO ei8 (by (try simp only [List.length_append, List.length_cons, List.length_nil]); omega) Tryz.underlying79 Tryz.underlying9 rfl rfl rfl rfl rfl ?_; intro g52 cur52 fz52 cap52 w cx hO
      refine s_val rfl rfl (v_assign rfl rfl) ?_
      refine wpList_nil ?_
      refine wp_region_lit ?_
      refine s_val rfl rfl (v_add rfl hs38 rfl (by omega) (by omega)) ?_
      refine s_val rfl rfl (v_move rfl rfl) ?_
      refine wpList_nil ?_
      exact ⟨gk9 - 1, _, by omega, rfl, i + 1, b1, _, _, _, _, _, by omega, hs1, rfl, hs36, hs37, rfl, cx, by rw [textC_succ' hy]; exact hO⟩
    · skip
      try simp only [Bool.and_eq_true, Bool.or_eq_true, Bool.and_eq_false_iff, Bool.or_eq_false_iff, Bool.not_eq_true', Bool.not_eq_false', decide_eq_true_eq, decide_eq_false_iff_not, beq_iff_eq, beq_eq_false_iff_ne, bne_iff_ne, bne_eq_false_iff_eq, ne_eq, Classical.not_not] at hc39
      refine wp_exit ?_
      refine wp_seq ?_
      refine wp_seq ?_
      refine wp_region_lit ?_
      refine s_val rfl rfl (v_fa fa35_3 rfl hs1) ?_
      refine s_val rfl rfl (v_load1 rfl rfl Tryz.underlying32 rfl (cx.cell 1 rfl rfl)) ?_
      refine s_val rfl rfl (v_lenSlice rfl rfl Tryz.underlying32) ?_
      refine s_val rfl rfl (v_move rfl rfl) ?_
      refine wpList_nil ?_
      refine wp_block ?_
      refine w_loop (fun k f w1 => ∃ (i b1 g cap n : Nat) (cur : Array Value) (fz : Nat × Nat), k + i = x.ents.length ∧ f 1 = .pointer (some ⟨b1, 0, none⟩) ∧ f 6 = .slice (some ⟨g, 0, none⟩) n cap ∧ f 55 = .slice a x.ents.length c ∧ f 56 = .int .i64 x.ents.length ∧ f 57 = .int .i64 i ∧ Ctx w0 w1 [(g, .cells cur 5 fz), (b1, .cells ([.int .i64 x.fmt, .int .i64 x.size, .int .i64 x.depth, .slice a x.ents.length c, .slice a2 x.cols.length c2] : List Value).toArray 35)] ∧ Outs cur fz n cap (textE x i)) (x.ents.length) ?_ ?_
      · skip
        have hi0 : i = x.cols.length := by omega
        subst hi0
        exact ⟨0, b1, g, cap, n, cur, fz, by omega, hs1, hs6, rfl, rfl, rfl, cx, by rw [textE_zero]; exact hO⟩
      intro gk15 f w hJ
      obtain ⟨i, b1, g, cap, n, cur, fz, hk, hs1, hs6, hs55, hs56, hs57, cx, hO⟩ := hJ
      have hOn := hO.2.1
      refine wp_seq ?_
      refine wp_region_lit ?_
      refine s_val rfl rfl (v_cmp rfl hs57 hs56 rfl) ?_
      refine wpList_nil ?_
      refine wp_seq ?_
      refine c_split rfl (fun hc58 => ?_) (fun hc58 => ?_)
      · skip
        try simp only [Bool.and_eq_true, Bool.or_eq_true, Bool.and_eq_false_iff, Bool.or_eq_false_iff, Bool.not_eq_true', Bool.not_eq_false', decide_eq_true_eq, decide_eq_false_iff_not, beq_iff_eq, beq_eq_false_iff_ne, bne_iff_ne, bne_eq_false_iff_eq, ne_eq, Classical.not_not] at hc58
        obtain ⟨e, he⟩ : ∃ e, x.ents[i]? = some e := ⟨x.ents[i]'(by omega), List.getElem?_eq_getElem _⟩
        obtain ⟨p, hrw, hp⟩ := hr i e he
        obtain ⟨pa, pc, rfl, hpc⟩ := hp.sl
        obtain rfl := ha (by omega)
        have hem := List.mem_of_getElem? he
        obtain ⟨hgd, hgl⟩ := chk_good hchk e hem
        obtain ⟨hr0, hr1, hr3⟩ := chk_rng hchk e hem
        have hi1 := itoa_le (n := e.fr) hr0 (by omega)
        have hi2 := itoa_le (n := e.to) (by omega) (by omega)
        have hpl := pathT_len' hgd
        have htl := textE_len hchk i (by omega)
        refine wp_skip ?_
        refine w_cut (fun f w1 => ∃ (b1 g cap n : Nat) (cur : Array Value) (fz : Nat × Nat), f 1 = .pointer (some ⟨b1, 0, none⟩) ∧ f 6 = .slice (some ⟨g, 0, none⟩) n cap ∧ f 55 = .slice (some ⟨b, o, none⟩) x.ents.length c ∧ f 56 = .int .i64 x.ents.length ∧ f 57 = .int .i64 i ∧ Ctx w0 w1 [(g, .cells cur 5 fz), (b1, .cells ([.int .i64 x.fmt, .int .i64 x.size, .int .i64 x.depth, .slice (some ⟨b, o, none⟩) x.ents.length c, .slice a2 x.cols.length c2] : List Value).toArray 35)] ∧ Outs cur fz n cap (textE x (i + 1))) ?_ ?_
        · skip
          refine wp_block ?_
          refine wp_seq ?_
          refine wp_region_lit ?_
          refine s_val rfl rfl (v_ia Tryz.underlying32 sz52 rfl hs55 hs57 (by omega) (by omega)) ?_
          refine s_val rfl rfl (v_load rfl rfl Tryz.underlying52 rfl sz52 (hrw.up cx.ext) rfl) ?_
          refine s_alloc cx z52 rfl rfl rfl ?_; intro b12 w cx hb12 hw12
          refine s_storeAll cx 0 rfl rfl rfl rfl rfl rfl sz52 rfl rfl ?_; intro w cx hwS16
          refine wpList_nil ?_
          refine w_ord cx (cx.pick1 0 rfl) mixed [(0, 61), (1, 62), (2, 63), (3, 64), (6, 67), (7, 68), (8, 69), (12, 73), (13, 74)] #[true, true, true, true, false, false, true, true, true, false, false, false, true, true, false, false, false, false, false] (by kernel_rfl) (by kernel_rfl) (by kernel_rfl) (by kernel_rfl) ?_
          refine pu_one rfl (wnt_none rfl) (fun w cx => v_move rfl hs6) ?_
          refine pu_one rfl (wnt_none rfl) (fun w cx => v_fa fa52_1 rfl rfl) ?_
          refine pu_one rfl (wnt_none rfl) (fun w cx => v_fa fa48_0 rfl rfl) ?_
          refine pu_one rfl (wnt_none rfl) (fun w cx => v_load1 rfl rfl Tryz.underlying3 rfl (cx.cell 0 rfl rfl)) ?_
          refine pu_one rfl (wnt_none rfl) (fun w cx => v_fa fa52_1 rfl rfl) ?_
          refine pu_one rfl (wnt_none rfl) (fun w cx => v_fa fa48_1 rfl rfl) ?_
          refine pu_one rfl (wnt_none rfl) (fun w cx => v_load1 rfl rfl Tryz.underlying3 rfl (cx.cell 0 rfl rfl)) ?_
          refine pu_one rfl (wnt_none rfl) (fun w cx => v_fa fa52_0 rfl rfl) ?_
          refine pu_one rfl (wnt_none rfl) (fun w cx => v_load1 rfl rfl Tryz.underlying28 rfl (cx.cell 0 rfl rfl)) ?_
          refine pu_nil ?_; intro w cx hwD17
          refine x_one (i := 4) (by kernel_rfl) rfl ?_
          refine s_fn cx (c47 _ _ (ht.up cx.ext) (by omega) (by omega)) Tryz.func47 rfl rfl rfl rfl rfl rfl ?_; intro q65 w cx hw65 hp65
          subst hp65
          refine x_next ⟨.inl (cx.pick1 0 rfl), ?_⟩
          refine x_two (i := 5) (j := 9) (by kernel_rfl) rfl rfl ?_ ?_
          · skip
            refine s_val rfl rfl (v_strAddB (a := (itoa e.fr)) (b := [32]) rfl rfl rfl (by (try simp only [List.length_append, List.length_cons, List.length_nil]); omega)) ?_
            refine x_next ⟨.inl (cx.pick1 0 rfl), ?_⟩
            refine x_one (i := 9) (by kernel_rfl) rfl ?_
            refine s_fn cx (c47 _ _ (ht.up cx.ext) (by omega) (by omega)) Tryz.func47 rfl rfl rfl rfl rfl rfl ?_; intro q70 w cx hw70 hp70
            subst hp70
            refine x_next ⟨.inl (cx.pick1 0 rfl), ?_⟩
            refine x_two (i := 10) (j := 14) (by kernel_rfl) rfl rfl ?_ ?_
            · skip
              refine s_val rfl rfl (v_strAddB (a := ((itoa e.fr) ++ [32])) (b := itoa e.to) rfl rfl rfl (by (try simp only [List.length_append, List.length_cons, List.length_nil]); omega)) ?_
              refine x_next ⟨.inl (cx.pick1 0 rfl), ?_⟩
              refine x_two (i := 11) (j := 14) (by kernel_rfl) rfl rfl ?_ ?_
              · skip
                refine s_val rfl rfl (v_strAddB (a := (((itoa e.fr) ++ [32]) ++ itoa e.to)) (b := [32]) rfl rfl rfl (by (try simp only [List.length_append, List.length_cons, List.length_nil]); omega)) ?_
                refine x_next ⟨.inl (cx.pick1 0 rfl), ?_⟩
                refine x_one (i := 14) (by kernel_rfl) rfl ?_
                refine s_fn cx (c41 _ _ _ (hp.up cx.ext) (fun s hs => (hgd.2 s hs).gds) hgd.1 (ht.up cx.ext)) Tryz.func41 rfl rfl rfl rfl rfl rfl ?_; intro q75 w cx hw75 hp75
                subst hp75
                refine x_next ⟨.inl (cx.pick1 0 rfl), ?_⟩
                refine x_one (i := 15) (by kernel_rfl) rfl ?_
                refine s_val rfl rfl (v_strAddB (a := ((((itoa e.fr) ++ [32]) ++ itoa e.to) ++ [32])) (b := pathT e.path) rfl rfl rfl (by (try simp only [List.length_append, List.length_cons, List.length_nil]); omega)) ?_
                refine x_next ⟨.inl (cx.pick1 0 rfl), ?_⟩
                refine x_one (i := 16) (by kernel_rfl) rfl ?_
                refine s_val rfl rfl (v_strAddB (a := (((((itoa e.fr) ++ [32]) ++ itoa e.to) ++ [32]) ++ pathT e.path)) (b := [10]) rfl rfl rfl (by (try simp only [List.length_append, List.length_cons, List.length_nil]); omega)) ?_
                refine x_next ⟨.inl (cx.pick1 0 rfl), ?_⟩
                refine x_one (i := 17) (by kernel_rfl) rfl ?_
                replace cx := cx.drop 1
                refine s_appL cx hO ei8 (by (try simp only [List.length_append, List.length_cons, List.length_nil]); omega) Tryz.underlying79 Tryz.underlying9 rfl rfl rfl rfl rfl ?_; intro g78 cur78 fz78 cap78 w cx hO
                refine x_next ⟨.inr (by kernel_rfl), ?_⟩
                refine x_one (i := 18) (by kernel_rfl) rfl ?_
                refine s_val rfl rfl (v_assign rfl rfl) ?_
                refine x_next ⟨.inr (by kernel_rfl), ?_⟩
                refine x_done (by kernel_rfl) ?_
                exact ⟨_, rfl, b1, _, _, _, _, _, hs1, rfl, hs55, hs56, hs57, cx, by rw [textE_succ' he]; exact hO⟩
              · skip
                refine s_fn cx (c41 _ _ _ (hp.up cx.ext) (fun s hs => (hgd.2 s hs).gds) hgd.1 (ht.up cx.ext)) Tryz.func41 rfl rfl rfl rfl rfl rfl ?_; intro q75 w cx hw75 hp75
                subst hp75
                refine x_next ⟨.inl (cx.pick1 0 rfl), ?_⟩
                refine x_one (i := 11) (by kernel_rfl) rfl ?_
                refine s_val rfl rfl (v_strAddB (a := (((itoa e.fr) ++ [32]) ++ itoa e.to)) (b := [32]) rfl rfl rfl (by (try simp only [List.length_append, List.length_cons, List.length_nil]); omega)) ?_
                refine x_next ⟨.inl (cx.pick1 0 rfl), ?_⟩
                refine x_one (i := 15) (by kernel_rfl) rfl ?_
                refine s_val rfl rfl (v_strAddB (a := ((((itoa e.fr) ++ [32]) ++ itoa e.to) ++ [32])) (b := pathT e.path) rfl rfl rfl (by (try simp only [List.length_append, List.length_cons, List.length_nil]); omega)) ?_
                refine x_next ⟨.inl (cx.pick1 0 rfl), ?_⟩
                refine x_one (i := 16) (by kernel_rfl) rfl ?_
                refine s_val rfl rfl (v_strAddB (a := (((((itoa e.fr) ++ [32]) ++ itoa e.to) ++ [32]) ++ pathT e.path)) (b := [10]) rfl rfl rfl (by (try simp only [List.length_append, List.length_cons, List.length_nil]); omega)) ?_
                refine x_next ⟨.inl (cx.pick1 0 rfl), ?_⟩
                refine x_one (i := 17) (by kernel_rfl) rfl ?_
                replace cx := cx.drop 1
                refine s_appL cx hO ei8 (by (try simp only [List.length_append, List.length_cons, List.length_nil]); omega) Tryz.underlying79 Tryz.underlying9 rfl rfl rfl rfl rfl ?_; intro g78 cur78 fz78 cap78 w cx hO
                refine x_next ⟨.inr (by kernel_rfl), ?_⟩
                refine x_one (i := 18) (by kernel_rfl) rfl ?_
                refine s_val rfl rfl (v_assign rfl rfl) ?_
                refine x_next ⟨.inr (by kernel_rfl), ?_⟩
                refine x_done (by kernel_rfl) ?_
                exact ⟨_, rfl, b1, _, _, _, _, _, hs1, rfl, hs55, hs56, hs57, cx, by rw [textE_succ' he]; exact hO⟩
            · skip
              refine s_fn cx (c41 _ _ _ (hp.up cx.ext) (fun s hs => (hgd.2 s hs).gds) hgd.1 (ht.up cx.ext)) Tryz.func41 rfl rfl rfl rfl rfl rfl ?_; intro q75 w cx hw75 hp75
              subst hp75
              refine x_next ⟨.inl (cx.pick1 0 rfl), ?_⟩
              refine x_one (i := 10) (by kernel_rfl) rfl ?_
              refine s_val rfl rfl (v_strAddB (a := ((itoa e.fr) ++ [32])) (b := itoa e.to) rfl rfl rfl (by (try simp only [List.length_append, List.length_cons, List.length_nil]); omega)) ?_
              refine x_next ⟨.inl (cx.pick1 0 rfl), ?_⟩
              refine x_one (i := 11) (by kernel_rfl) rfl ?_
              refine s_val rfl rfl (v_strAddB (a := (((itoa e.fr) ++ [32]) ++ itoa e.to)) (b := [32]) rfl rfl rfl (by (try simp only [List.length_append, List.length_cons, List.length_nil]); omega)) ?_
              refine x_next ⟨.inl (cx.pick1 0 rfl), ?_⟩
              refine x_one (i := 15) (by kernel_rfl) rfl ?_
              refine s_val rfl rfl (v_strAddB (a := ((((itoa e.fr) ++ [32]) ++ itoa e.to) ++ [32])) (b := pathT e.path) rfl rfl rfl (by (try simp only [List.length_append, List.length_cons, List.length_nil]); omega)) ?_
              refine x_next ⟨.inl (cx.pick1 0 rfl), ?_⟩
              refine x_one (i := 16) (by kernel_rfl) rfl ?_
              refine s_val rfl rfl (v_strAddB (a := (((((itoa e.fr) ++ [32]) ++ itoa e.to) ++ [32]) ++ pathT e.path)) (b := [10]) rfl rfl rfl (by (try simp only [List.length_append, List.length_cons, List.length_nil]); omega)) ?_
              refine x_next ⟨.inl (cx.pick1 0 rfl), ?_⟩
              refine x_one (i := 17) (by kernel_rfl) rfl ?_
              replace cx := cx.drop 1
              refine s_appL cx hO ei8 (by (try simp only [List.length_append, List.length_cons, List.length_nil]); omega) Tryz.underlying79 Tryz.underlying9 rfl rfl rfl rfl rfl ?_; intro g78 cur78 fz78 cap78 w cx hO
              refine x_next ⟨.inr (by kernel_rfl), ?_⟩
              refine x_one (i := 18) (by kernel_rfl) rfl ?_
              refine s_val rfl rfl (v_assign rfl rfl) ?_
              refine x_next ⟨.inr (by kernel_rfl), ?_⟩
              refine x_done (by kernel_rfl) ?_
              exact ⟨_, rfl, b1, _, _, _, _, _, hs1, rfl, hs55, hs56, hs57, cx, by rw [textE_succ' he]; exact hO⟩
          · skip
            refine s_fn cx (c47 _ _ (ht.up cx.ext) (by omega) (by omega)) Tryz.func47 rfl rfl rfl rfl rfl rfl ?_; intro q70 w cx hw70 hp70
            subst hp70
            refine x_next ⟨.inl (cx.pick1 0 rfl), ?_⟩
            refine x_two (i := 5) (j := 14) (by kernel_rfl) rfl rfl ?_ ?_
            · skip
              refine s_val rfl rfl (v_strAddB (a := (itoa e.fr)) (b := [32]) rfl rfl rfl (by (try simp only [List.length_append, List.length_cons, List.length_nil]); omega)) ?_
              refine x_next ⟨.inl (cx.pick1 0 rfl), ?_⟩
              refine x_two (i := 10) (j := 14) (by kernel_rfl) rfl rfl ?_ ?_
              · skip
                refine s_val rfl rfl (v_strAddB (a := ((itoa e.fr) ++ [32])) (b := itoa e.to) rfl rfl rfl (by (try simp only [List.length_append, List.length_cons, List.length_nil]); omega)) ?_
                refine x_next ⟨.inl (cx.pick1 0 rfl), ?_⟩
                refine x_two (i := 11) (j := 14) (by kernel_rfl) rfl rfl ?_ ?_
                · skip
                  refine s_val rfl rfl (v_strAddB (a := (((itoa e.fr) ++ [32]) ++ itoa e.to)) (b := [32]) rfl rfl rfl (by (try simp only [List.length_append, List.length_cons, List.length_nil]); omega)) ?_
                  refine x_next ⟨.inl (cx.pick1 0 rfl), ?_⟩
                  refine x_one (i := 14) (by kernel_rfl) rfl ?_
                  refine s_fn cx (c41 _ _ _ (hp.up cx.ext) (fun s hs => (hgd.2 s hs).gds) hgd.1 (ht.up cx.ext)) Tryz.func41 rfl rfl rfl rfl rfl rfl ?_; intro q75 w cx hw75 hp75
                  subst hp75
                  refine x_next ⟨.inl (cx.pick1 0 rfl), ?_⟩
                  refine x_one (i := 15) (by kernel_rfl) rfl ?_
                  refine s_val rfl rfl (v_strAddB (a := ((((itoa e.fr) ++ [32]) ++ itoa e.to) ++ [32])) (b := pathT e.path) rfl rfl rfl (by (try simp only [List.length_append, List.length_cons, List.length_nil]); omega)) ?_
                  refine x_next ⟨.inl (cx.pick1 0 rfl), ?_⟩
                  refine x_one (i := 16) (by kernel_rfl) rfl ?_
                  refine s_val rfl rfl (v_strAddB (a := (((((itoa e.fr) ++ [32]) ++ itoa e.to) ++ [32]) ++ pathT e.path)) (b := [10]) rfl rfl rfl (by (try simp only [List.length_append, List.length_cons, List.length_nil]); omega)) ?_
                  refine x_next ⟨.inl (cx.pick1 0 rfl), ?_⟩
                  refine x_one (i := 17) (by kernel_rfl) rfl ?_
                  replace cx := cx.drop 1
                  refine s_appL cx hO ei8 (by (try simp only [List.length_append, List.length_cons, List.length_nil]); omega) Tryz.underlying79 Tryz.underlying9 rfl rfl rfl rfl rfl ?_; intro g78 cur78 fz78 cap78 w cx hO
                  refine x_next ⟨.inr (by kernel_rfl), ?_⟩
                  refine x_one (i := 18) (by kernel_rfl) rfl ?_
                  refine s_val rfl rfl (v_assign rfl rfl) ?_
                  refine x_next ⟨.inr (by kernel_rfl), ?_⟩
                  refine x_done (by kernel_rfl) ?_
                  exact ⟨_, rfl, b1, _, _, _, _, _, hs1, rfl, hs55, hs56, hs57, cx, by rw [textE_succ' he]; exact hO⟩
                · skip
                  refine s_fn cx (c41 _ _ _ (hp.up cx.ext) (fun s hs => (hgd.2 s hs).gds) hgd.1 (ht.up cx.ext)) Tryz.func41 rfl rfl rfl rfl rfl rfl ?_; intro q75 w cx hw75 hp75
                  subst hp75
                  refine x_next ⟨.inl (cx.pick1 0 rfl), ?_⟩
                  refine x_one (i := 11) (by kernel_rfl) rfl ?_
                  refine s_val rfl rfl (v_strAddB (a := (((itoa e.fr) ++ [32]) ++ itoa e.to)) (b := [32]) rfl rfl rfl (by (try simp only [List.length_append, List.length_cons, List.length_nil]); omega)) ?_
                  refine x_next ⟨.inl (cx.pick1 0 rfl), ?_⟩
                  refine x_one (i := 15) (by kernel_rfl) rfl ?_
                  refine s_val rfl rfl (v_strAddB (a := ((((itoa e.fr) ++ [32]) ++ itoa e.to) ++ [32])) (b := pathT e.path) rfl rfl rfl (by (try simp only [List.length_append, List.length_cons, List.length_nil]); omega)) ?_
                  refine x_next ⟨.inl (cx.pick1 0 rfl), ?_⟩
                  refine x_one (i := 16) (by kernel_rfl) rfl ?_
                  refine s_val rfl rfl (v_strAddB (a := (((((itoa e.fr) ++ [32]) ++ itoa e.to) ++ [32]) ++ pathT e.path)) (b := [10]) rfl rfl rfl (by (try simp only [List.length_append, List.length_cons, List.length_nil]); omega)) ?_
                  refine x_next ⟨.inl (cx.pick1 0 rfl), ?_⟩
                  refine x_one (i := 17) (by kernel_rfl) rfl ?_
                  replace cx := cx.drop 1
                  refine s_appL cx hO ei8 (by (try simp only [List.length_append, List.length_cons, List.length_nil]); omega) Tryz.underlying79 Tryz.underlying9 rfl rfl rfl rfl rfl ?_; intro g78 cur78 fz78 cap78 w cx hO
                  refine x_next ⟨.inr (by kernel_rfl), ?_⟩
                  refine x_one (i := 18) (by kernel_rfl) rfl ?_
                  refine s_val rfl rfl (v_assign rfl rfl) ?_
                  refine x_next ⟨.inr (by kernel_rfl), ?_⟩
                  refine x_done (by kernel_rfl) ?_
                  exact ⟨_, rfl, b1, _, _, _, _, _, hs1, rfl, hs55, hs56, hs57, cx, by rw [textE_succ' he]; exact hO⟩
              · skip
                refine s_fn cx (c41 _ _ _ (hp.up cx.ext) (fun s hs => (hgd.2 s hs).gds) hgd.1 (ht.up cx.ext)) Tryz.func41 rfl rfl rfl rfl rfl rfl ?_; intro q75 w cx hw75 hp75
                subst hp75
                refine x_next ⟨.inl (cx.pick1 0 rfl), ?_⟩
                refine x_one (i := 10) (by kernel_rfl) rfl ?_
                refine s_val rfl rfl (v_strAddB (a := ((itoa e.fr) ++ [32])) (b := itoa e.to) rfl rfl rfl (by (try simp only [List.length_append, List.length_cons, List.length_nil]); omega)) ?_
                refine x_next ⟨.inl (cx.pick1 0 rfl), ?_⟩
                refine x_one (i := 11) (by kernel_rfl) rfl ?_
                refine s_val rfl rfl (v_strAddB (a := (((itoa e.fr) ++ [32]) ++ itoa e.to)) (b := [32]) rfl rfl rfl (by (try simp only [List.length_append, List.length_cons, List.length_nil]); omega)) ?_
                refine x_next ⟨.inl (cx.pick1 0 rfl), ?_⟩
                refine x_one (i := 15) (by kernel_rfl) rfl ?_
                refine s_val rfl rfl (v_strAddB (a := ((((itoa e.fr) ++ [32]) ++ itoa e.to) ++ [32])) (b := pathT e.path) rfl rfl rfl (by (try simp only [List.length_append, List.length_cons, List.length_nil]); omega)) ?_
                refine x_next ⟨.inl (cx.pick1 0 rfl), ?_⟩
                refine x_one (i := 16) (by kernel_rfl) rfl ?_
                refine s_val rfl rfl (v_strAddB (a := (((((itoa e.fr) ++ [32]) ++ itoa e.to) ++ [32]) ++ pathT e.path)) (b := [10]) rfl rfl rfl (by (try simp only [List.length_append, List.length_cons, List.length_nil]); omega)) ?_
                refine x_next ⟨.inl (cx.pick1 0 rfl), ?_⟩
                refine x_one (i := 17) (by kernel_rfl) rfl ?_
                replace cx := cx.drop 1
                refine s_appL cx hO ei8 (by (try simp only [List.length_append, List.length_cons, List.length_nil]); omega) Tryz.underlying79 Tryz.underlying9 rfl rfl rfl rfl rfl ?_; intro g78 cur78 fz78 cap78 w cx hO
                refine x_next ⟨.inr (by kernel_rfl), ?_⟩
                refine x_one (i := 18) (by kernel_rfl) rfl ?_
                refine s_val rfl rfl (v_assign rfl rfl) ?_
                refine x_next ⟨.inr (by kernel_rfl), ?_⟩
                refine x_done (by kernel_rfl) ?_
                exact ⟨_, rfl, b1, _, _, _, _, _, hs1, rfl, hs55, hs56, hs57, cx, by rw [textE_succ' he]; exact hO⟩
            · skip
              refine s_fn cx (c41 _ _ _ (hp.up cx.ext) (fun s hs => (hgd.2 s hs).gds) hgd.1 (ht.up cx.ext)) Tryz.func41 rfl rfl rfl rfl rfl rfl ?_; intro q75 w cx hw75 hp75
              subst hp75
              refine x_next ⟨.inl (cx.pick1 0 rfl), ?_⟩
              refine x_one (i := 5) (by kernel_rfl) rfl ?_
              refine s_val rfl rfl (v_strAddB (a := (itoa e.fr)) (b := [32]) rfl rfl rfl (by (try simp only [List.length_append, List.length_cons, List.length_nil]); omega)) ?_
              refine x_next ⟨.inl (cx.pick1 0 rfl), ?_⟩
              refine x_one (i := 10) (by kernel_rfl) rfl ?_
              refine s_val rfl rfl (v_strAddB (a := ((itoa e.fr) ++ [32])) (b := itoa e.to) rfl rfl rfl (by (try simp only [List.length_append, List.length_cons, List.length_nil]); omega)) ?_
              refine x_next ⟨.inl (cx.pick1 0 rfl), ?_⟩
              refine x_one (i := 11) (by kernel_rfl) rfl ?_
              refine s_val rfl rfl (v_strAddB (a := (((itoa e.fr) ++ [32]) ++ itoa e.to)) (b := [32]) rfl rfl rfl (by (try simp only [List.length_append, List.length_cons, List.length_nil]); omega)) ?_
              refine x_next ⟨.inl (cx.pick1 0 rfl), ?_⟩
              refine x_one (i := 15) (by kernel_rfl) rfl ?_
              refine s_val rfl rfl (v_strAddB (a := ((((itoa e.fr) ++ [32]) ++ itoa e.to) ++ [32])) (b := pathT e.path) rfl rfl rfl (by (try simp only [List.length_append, List.length_cons, List.length_nil]); omega)) ?_
              refine x_next ⟨.inl (cx.pick1 0 rfl), ?_⟩
              refine x_one (i := 16) (by kernel_rfl) rfl ?_
              refine s_val rfl rfl (v_strAddB (a := (((((itoa e.fr) ++ [32]) ++ itoa e.to) ++ [32]) ++ pathT e.path)) (b := [10]) rfl rfl rfl (by (try simp only [List.length_append, List.length_cons, List.length_nil]); omega)) ?_
              refine x_next ⟨.inl (cx.pick1 0 rfl), ?_⟩
              refine x_one (i := 17) (by kernel_rfl) rfl ?_
              replace cx := cx.drop 1
              refine s_appL cx hO ei8 (by (try simp only [List.length_append, List.length_cons, List.length_nil]); omega) Tryz.underlying79 Tryz.underlying9 rfl rfl rfl rfl rfl ?_; intro g78 cur78 fz78 cap78 w cx hO
              refine x_next ⟨.inr (by kernel_rfl), ?_⟩
              refine x_one (i := 18) (by kernel_rfl) rfl ?_
              refine s_val rfl rfl (v_assign rfl rfl) ?_
              refine x_next ⟨.inr (by kernel_rfl), ?_⟩
              refine x_done (by kernel_rfl) ?_
              exact ⟨_, rfl, b1, _, _, _, _, _, hs1, rfl, hs55, hs56, hs57, cx, by rw [textE_succ' he]; exact hO⟩
        intro f w hJ
        obtain ⟨b1, g, cap, n, cur, fz, hs1, hs6, hs55, hs56, hs57, cx, hO⟩ := hJ
        refine wp_region_lit ?_
        refine s_val rfl rfl (v_add rfl hs57 rfl (by omega) (by omega)) ?_
        refine s_val rfl rfl (v_move rfl rfl) ?_
        refine wpList_nil ?_
        exact ⟨gk15 - 1, _, by omega, rfl, i + 1, b1, _, _, _, _, _, by omega, hs1, hs6, hs55, hs56, rfl, cx, hO⟩
      · skip
        try simp only [Bool.and_eq_true, Bool.or_eq_true, Bool.and_eq_false_iff, Bool.or_eq_false_iff, Bool.not_eq_true', Bool.not_eq_false', decide_eq_true_eq, decide_eq_false_iff_not, beq_iff_eq, beq_eq_false_iff_ne, bne_iff_ne, bne_eq_false_iff_eq, ne_eq, Classical.not_not] at hc58
        refine wp_exit ?_
        refine wp_seq ?_
        refine wp_region_lit ?_
        refine s_val rfl rfl (v_move rfl hs6) ?_
        have hi : i = x.ents.length := by omega
        subst hi
        refine s_val rfl rfl (v_b2s rfl Tryz.underlying79 Tryz.underlying5 Tryz.underlying9 (ns := (textX x).map fun x : UInt8 => (x.toNat : Int)) (by rw [List.map_map]; exact Outs.row cx hO) (by rw [List.length_map]; exact hO.2.1.symm) rfl) ?_
        refine s_val rfl rfl (v_assign rfl rfl) ?_
        refine s_val rfl rfl (v_assign rfl rfl) ?_
        refine wpList_nil ?_
        refine wp_ret ?_
        refine ret_tmp2 Tryz.results21 rfl rfl ?_
        refine ⟨cx.ext, ?_⟩
        rw [txtO_0 hchk, hchk]
        exact congrArg (fun s => Value.tuple #[Value.string s, Value.int .i64 0]) (strOf_bs (textX x))
end Go.Proofs.YthiafbkolhnadaaGreatDoor
end
section
set_option linter.unusedSimpArgs false
set_option linter.unusedVariables false
namespace Go.Proofs.YthiafbkolhnadaaGreatDoor
open Go Go.Dk Go.RowKit Go.Lib
attribute [local irreducible] Go.wpList Go.Code.wp Go.bodyPost Go.wpStill Go.wpQuiet
noncomputable def lrow (x : Idx) (g : Nat) : Row := ⟨9, 1, .slice (some ⟨g, 0, none⟩) ((linesX x).length + 1) ((linesX x).length + 1), (linesX x).length + 1, ((linesX x).map bs ++ [bs []]).map Value.string⟩
def PSt (x : Idx) (b5 b2 g : Nat) (w0 w : World) (i : Nat) : Prop := ∃ (ve vc : Value) (ps : List Value) (rs : List Row),
  Cxr w0 w [(b5, .cells ([.int .i64 x.fmt, .int .i64 x.size, .int .i64 x.depth, ve, vc] : List Value).toArray 35), (b2, .cells ([.int .i64 0, .int .i64 0, .int .i64 0, .slice none 0 0, .slice none 0 0] : List Value).toArray 35)] (⟨52, 3, ve, i - x.cols.length, ecells ps (x.ents.take (i - x.cols.length))⟩ :: ⟨9, 1, vc, min i x.cols.length, (x.cols.take (min i x.cols.length)).map Value.string⟩ :: rs) ∧
  ps.length = (x.ents.take (i - x.cols.length)).length ∧ (∀ q ∈ prows 107 ps (x.ents.take (i - x.cols.length)), q ∈ rs) ∧ lrow x g ∈ rs
theorem row_cell {w0 w : World} {L : List (Nat × Obj)} {R : List Row} {g n c : Nat} {xs : List Value} (cx : Cxr w0 w L R) (hm : (⟨9, 1, .slice (some ⟨g, 0, none⟩) n c, n, xs⟩ : Row) ∈ R) {i j : Nat} {v : Value} (hi : xs[i]? = some v) (hj : j = i) : w.cell? ⟨g, j, none⟩ = some v := by
  subst hj
  obtain ⟨g', c', he, _, _, hr⟩ := (cx.oneR hm).rowS (List.length_pos_iff.2 fun e => by rw [e] at hi; simp at hi)
  cases he
  have := hr j v hi
  rwa [Nat.zero_add] at this
theorem lrow_at {x : Idx} {i : Nat} {l : List UInt8} (h : (linesX x)[i]? = some l) : (((linesX x).map bs ++ [bs []]).map Value.string)[i]? = some (.string (bs l)) := by
  have hlt := (List.getElem?_eq_some_iff.1 h).1
  rw [List.getElem?_map, List.getElem?_append_left (by simpa using hlt), List.getElem?_map, h]
  rfl
theorem PSt.cell {x : Idx} {b5 b2 g : Nat} {w0 w : World} {i k j : Nat} {l : List UInt8} (h : PSt x b5 b2 g w0 w i) (hi : (linesX x)[k]? = some l) (hj : j = k) : w.cell? ⟨g, j, none⟩ = some (.string (bs l)) := by
  obtain ⟨ve, vc, ps, rs, cx, _, _, hm⟩ := h
  exact row_cell cx (List.mem_cons_of_mem _ (List.mem_cons_of_mem _ hm)) (lrow_at hi) hj
theorem PSt.step {x : Idx} {b5 b2 g : Nat} {w0 w : World} {i : Nat} {l : List UInt8} (h : PSt x b5 b2 g w0 w i) (hi : (linesX x)[i + 1]? = some l) (hx : chkX x = 0) (hne : x.ents.length ≤ 1000) (hnc : x.cols.length ≤ 1000) (hcn : Cnt w0) (ht : Tabs w0) :
    Ret Tryz.prog 57 [.pointer (some ⟨b5, 0, none⟩), .string (bs l)] w (fun v w' => v = .bool true ∧ PSt x b5 b2 g w0 w' (i + 1)) := by
  obtain ⟨ve, vc, ps, rs, cx, hl, hm, hlr⟩ := h
  have hlt := (List.getElem?_eq_some_iff.1 hi).1
  rw [linesX_len] at hlt
  obtain ⟨_, hs0, hs1, _⟩ := chk_hdr hx
  rcases line_cases (x := x) (i := i) (by omega) with ⟨c, h1, h2, h3⟩ | ⟨e, h1, h2, h3⟩
  · obtain rfl : l = colT c := Option.some.inj (hi.symm.trans h3)
    obtain ⟨hv, hc⟩ := chk_cols hx c (List.mem_of_getElem? h2)
    refine Calls.mono (c57c w0 w b5 (min i x.cols.length) x.fmt x.size x.depth ve vc c _ _ _ cx.swapR (by omega) hv hc) ?_
    rintro e' w' ⟨v, rfl, rfl, vc', cx'⟩
    refine ⟨_, rfl, rfl, ve, vc', ps, rs, ?_, ?_, ?_, hlr⟩
    · have e1 : i + 1 - x.cols.length = i - x.cols.length := by omega
      have e2 : min (i + 1) x.cols.length = min i x.cols.length + 1 := by omega
      have e3 : min i x.cols.length = i := by omega
      rw [e1, e2]
      rw [e3] at cx' ⊢
      rw [take_str h2] at cx'
      exact cx'.swapR
    · rw [show i + 1 - x.cols.length = i - x.cols.length by omega]; exact hl
    · rw [show i + 1 - x.cols.length = i - x.cols.length by omega]; exact hm
  · obtain rfl : l = entT e := Option.some.inj (hi.symm.trans h3)
    have he := List.mem_of_getElem? h2
    obtain ⟨r1, r2, r3⟩ := chk_rng hx e he
    obtain ⟨g1, g2⟩ := chk_good hx e he
    refine Calls.mono (c57e w0 w b5 (i - x.cols.length) x.fmt x.size x.depth ve vc e _ _ _ cx (by omega) g1 g2 r1 (by omega) (by omega) (by omega) hcn ht) ?_
    rintro e' w' ⟨v, rfl, rfl, ve', p, cx'⟩
    have e1 : i + 1 - x.cols.length = i - x.cols.length + 1 := by omega
    have e2 : min (i + 1) x.cols.length = min i x.cols.length := by omega
    have e3 := take_snoc h2
    refine ⟨_, rfl, rfl, ve', vc, ps ++ [p], prow 107 p e :: rs, ?_, ?_, ?_, List.mem_cons_of_mem _ hlr⟩
    · rw [e1, e2, e3, ecells_snoc ps _ p e hl]
      exact cx'.permR ((List.Perm.refl _).cons _ |>.trans (List.Perm.cons _ (List.Perm.swap _ _ _)))
    · rw [e1, e3]; simp [hl]
    · rw [e1, e3, prows_snoc 107 ps _ p e hl]
      intro q hq
      rcases List.mem_append.1 hq with hq | hq
      · exact List.mem_cons_of_mem _ (hm q hq)
      · obtain rfl := List.mem_singleton.1 hq; exact List.mem_cons_self ..
theorem PSt.idx {x : Idx} {b5 b2 g : Nat} {w0 w : World} {i : Nat} (h : PSt x b5 b2 g w0 w i) (hi : i = x.cols.length + x.ents.length) (hx : chkX x = 0) :
    ∃ ve vc R, Cxr w0 w [(b5, .cells ([.int .i64 x.fmt, .int .i64 x.size, .int .i64 x.depth, ve, vc] : List Value).toArray 35), (b2, .cells ([.int .i64 0, .int .i64 0, .int .i64 0, .slice none 0 0, .slice none 0 0] : List Value).toArray 35)] R ∧ (∀ w' L', Cxr w0 w' L' R → IdxV w' x [.int .i64 x.fmt, .int .i64 x.size, .int .i64 x.depth, ve, vc]) ∧ ve.oneCell' = true ∧ vc.oneCell' = true := by
  obtain ⟨ve, vc, ps, rs, cx, hl, hm, _⟩ := h
  have e1 : i - x.cols.length = x.ents.length := by omega
  have e2 : min i x.cols.length = x.cols.length := by omega
  rw [e1, e2, List.take_length, List.take_length] at cx
  rw [e1, List.take_length] at hl hm
  exact ⟨ve, vc, _, cx, fun w' L' cx => ⟨ve, vc, rfl, ens_of cx rfl hl (fun q hq => List.mem_cons_of_mem _ (hm q hq)) fun e he => (chk_good hx e he).2, cls_of cx.swapR rfl⟩, cx.oneS, cx.swapR.oneS⟩
theorem PSt.zero {x : Idx} {b5 b2 g : Nat} {w0 w : World} (cx : Cxr w0 w [(b5, .cells ([.int .i64 x.fmt, .int .i64 x.size, .int .i64 x.depth, .slice none 0 0, .slice none 0 0] : List Value).toArray 35), (b2, .cells ([.int .i64 0, .int .i64 0, .int .i64 0, .slice none 0 0, .slice none 0 0] : List Value).toArray 35)] [lrow x g]) : PSt x b5 b2 g w0 w 0 := by
  refine ⟨.slice none 0 0, .slice none 0 0, [], [lrow x g], ?_, by simp, by simp [prows], List.mem_cons_self ..⟩
  rw [Nat.zero_sub, Nat.zero_min]
  exact (cx.nilRow 9 1).nilRow 52 3
theorem sl63 (g n : Nat) : Value.slice (some ⟨g, 0 + Int.toNat 1 * 1, none⟩) (Int.toNat (((n + 1 : Nat) : Int) - 1) - Int.toNat 1) (n + 1 - Int.toNat 1) = .slice (some ⟨g, 1, none⟩) (n - 1) n := by
  have h1 : Int.toNat (((n + 1 : Nat) : Int) - 1) = n := by omega
  rw [h1]
  rfl
set_option maxHeartbeats 4000000 in
set_option maxRecDepth 10000 in
theorem c23 (x : Idx) (w0 : World) (hx : chkX x = 0) (hne : x.ents.length ≤ 1000) (hnc : x.cols.length ≤ 1000) (hs : Szd x) (hcn : Cnt w0) (ht : Tabs w0) : Fc Tryz.prog 23 [.string (bs (textX x))] w0 (fun v w' => ∃ r, v = .tuple #[.agg r.toArray, .int .i64 0] ∧ IdxV w' x r) := by
  obtain ⟨hd0, hd1, hd2, hd3', hd4'⟩ := chk_hdr hx
  have hd3 : 0 ≤ x.depth := by omega
  have hd4 : x.depth ≤ 1048576 := by omega
  have hi1 := itoa_le hd1 hd2
  have hi2 := itoa_le hd3 hd4
  have hn := linesX_len x
  have hl0 : (linesX x)[0]? = some (hdrT x) := rfl
  have htl := textE_len hx x.ents.length (Nat.le_refl _)
  have htl2 : (textX x).length ≤ 41 + 6154 * x.cols.length + 297618 * x.ents.length := htl
  refine ret_enter Tryz.func23 rfl Tryz.ntmps23 rfl ?_
  have cx := Ctx.start w0
  refine wp_seq ?_
  refine wp_region_lit ?_
  refine s_alloc cx z35 rfl rfl rfl ?_; intro b2 w cx hb2 hw2
  refine s_val rfl rfl (v_assign rfl rfl) ?_
  refine wpList_nil ?_
  refine wp_seq ?_
  refine wp_region_lit ?_
  refine s_val rfl rfl (v_move rfl rfl) ?_
  have cxB := cx
  refine s_fn cx (c54 (textX x) [10] _ (hcn.up cx.ext) (by omega) (by simp)) Tryz.func54 rfl rfl rfl rfl rfl rfl ?_; intro q17 w cx hw17 hp17
  obtain ⟨g, kk, rfl, hkk, hrow⟩ := hp17
  rw [textX_lines, countB_lines _ (linesX_10 hx)] at hkk hrow
  rw [splitB_lines _ (linesX_10 hx)] at hrow
  subst hkk
  replace cx : Cxr w0 w _ [lrow x g] := cxB.callRow hw17 hrow
  refine s_val rfl rfl (v_assign rfl rfl) ?_
  refine wpList_nil ?_
  refine wp_seq ?_
  refine wp_region_lit ?_
  refine s_alloc cx z35 rfl rfl rfl ?_; intro b5 w cx hb5 hw5
  refine wpList_nil ?_
  refine wp_seq ?_
  refine wp_region_lit ?_
  refine s_val rfl rfl (v_move rfl rfl) ?_
  refine s_val rfl rfl (v_ia Tryz.underlying33 sz9 rfl rfl rfl (by omega) (by omega)) ?_
  refine s_val rfl rfl (v_load1 rfl rfl Tryz.underlying9 rfl (row_cell cx (List.mem_cons_self ..) (lrow_at hl0) (by simp))) ?_
  refine s_fn cx (c55 (hdrT x) [105, 110, 100, 101, 120, 32, 98, 114, 97, 99, 101, 32] _) Tryz.func55 rfl rfl rfl rfl rfl rfl ?_; intro q22 w cx hw22 hp22
  subst hp22
  refine s_val rfl rfl (v_move rfl rfl) ?_
  refine s_val rfl rfl (v_extract rfl rfl rfl) ?_
  refine s_val rfl rfl (v_extract rfl rfl rfl) ?_
  refine s_val rfl rfl (v_assign rfl rfl) ?_
  refine s_val rfl rfl (v_assign rfl rfl) ?_
  refine wpList_nil ?_
  refine wp_seq ?_
  refine wp_region_lit ?_
  refine s_val rfl rfl (v_fa fa35_0 rfl rfl) ?_
  refine s_store1 (v := .int .i64 1) cx 0 rfl rfl rfl rfl rfl rfl rfl rfl sz3 ?_; intro w cx hwS4_1
  refine wpList_nil ?_
  refine w_cut (fun f w1 => ∃ b5 b2 : Nat, f 0 = .string (bs (textX x)) ∧ f 2 = .pointer (some ⟨b2, 0, none⟩) ∧ f 4 = .slice (some ⟨g, 0, none⟩) ((linesX x).length + 1) ((linesX x).length + 1) ∧ f 5 = .pointer (some ⟨b5, 0, none⟩) ∧ f 6 = .string (bs (itoa x.size ++ 32 :: itoa x.depth)) ∧ f 7 = .bool true ∧ Cxr w0 w1 [(b5, .cells ([.int .i64 x.fmt, .int .i64 0, .int .i64 0, .slice none 0 0, .slice none 0 0] : List Value).toArray 35), (b2, .cells ([.int .i64 0, .int .i64 0, .int .i64 0, .slice none 0 0, .slice none 0 0] : List Value).toArray 35)] [lrow x g]) ?_ ?_
  · skip
    refine wp_seq ?_
    refine wp_region_lit ?_
    refine s_val rfl rfl (v_move rfl rfl) ?_
    refine s_val rfl rfl (v_not rfl rfl) ?_
    refine wpList_nil ?_
    refine c_split rfl (fun hc27 => ?_) (fun hc27 => ?_)
    · skip
      try simp only [Bool.and_eq_true, Bool.or_eq_true, Bool.and_eq_false_iff, Bool.or_eq_false_iff, Bool.not_eq_true', Bool.not_eq_false', decide_eq_true_eq, decide_eq_false_iff_not, beq_iff_eq, beq_eq_false_iff_ne, bne_iff_ne, bne_eq_false_iff_eq, ne_eq, Classical.not_not] at hc27
      have hf4 : x.fmt = 4 := by
        rcases hd0 with h | h
        · exfalso
          rw [(pre_hdr1 h).1] at hc27
          revert hc27; decide
        · exact h
      refine wp_seq ?_
      refine wp_region_lit ?_
      refine s_val rfl rfl (v_move rfl rfl) ?_
      refine s_val rfl rfl (v_ia Tryz.underlying33 sz9 rfl rfl rfl (by omega) (by omega)) ?_
      refine s_val rfl rfl (v_load1 rfl rfl Tryz.underlying9 rfl (row_cell cx (List.mem_cons_self ..) (lrow_at hl0) (by simp))) ?_
      refine s_fn cx (c55 (hdrT x) [105, 110, 100, 101, 120, 32, 100, 101, 108, 105, 109, 32] _) Tryz.func55 rfl rfl rfl rfl rfl rfl ?_; intro q32 w cx hw32 hp32
      simp only [(pre_hdr4 hf4).2.1, (pre_hdr4 hf4).2.2] at hp32
      subst hp32
      refine s_val rfl rfl (v_move rfl rfl) ?_
      refine s_val rfl rfl (v_extract rfl rfl rfl) ?_
      refine s_val rfl rfl (v_extract rfl rfl rfl) ?_
      refine s_val rfl rfl (v_assign rfl rfl) ?_
      refine s_val rfl rfl (v_assign rfl rfl) ?_
      refine wpList_nil ?_
      refine wp_region_lit ?_
      refine s_val rfl rfl (v_fa fa35_0 rfl rfl) ?_
      refine s_store1 (v := .int .i64 4) cx 0 rfl rfl rfl rfl rfl rfl rfl rfl sz3 ?_; intro w cx hwS7_1
      refine wpList_nil ?_
      first | exact ⟨_, rfl, _, _, rfl, rfl, rfl, rfl, rfl, rfl, by rw [hf4]; exact cx⟩ | exact ⟨_, rfl, _, _, rfl, rfl, rfl, rfl, congrArg (fun l => Value.string (bs l)) (pre_hdr1 hf1).2, congrArg Value.bool (pre_hdr1 hf1).1, by rw [hf1]; exact cx⟩
    · skip
      try simp only [Bool.and_eq_true, Bool.or_eq_true, Bool.and_eq_false_iff, Bool.or_eq_false_iff, Bool.not_eq_true', Bool.not_eq_false', decide_eq_true_eq, decide_eq_false_iff_not, beq_iff_eq, beq_eq_false_iff_ne, bne_iff_ne, bne_eq_false_iff_eq, ne_eq, Classical.not_not] at hc27
      have hf1 : x.fmt = 1 := by
        rcases hd0 with h | h
        · exact h
        · exfalso
          rw [(pre_hdr4 h).1] at hc27
          revert hc27; decide
      refine wp_skip ?_
      first | exact ⟨_, rfl, _, _, rfl, rfl, rfl, rfl, rfl, rfl, by rw [hf4]; exact cx⟩ | exact ⟨_, rfl, _, _, rfl, rfl, rfl, rfl, congrArg (fun l => Value.string (bs l)) (pre_hdr1 hf1).2, congrArg Value.bool (pre_hdr1 hf1).1, by rw [hf1]; exact cx⟩
  intro f w hJ
  obtain ⟨b5, b2, hs0, hs2, hs4, hs5, hs6, hs7, cx⟩ := hJ
  refine wp_seq ?_
  refine wp_region_lit ?_
  refine s_val rfl rfl (v_move rfl hs6) ?_
  refine s_fn cx (c56 (itoa x.size ++ 32 :: itoa x.depth) (itoa x.depth) [] x.size x.depth true false (cut1_hit _ _ _ (itoa_32 hd1)) (cut1_miss _ _ (itoa_32 hd3)) hd1 hd2 hd3 hd4 (by simp only [List.length_append, List.length_cons]; omega) (by omega) _ (hcn.up cx.ext)) Tryz.func56 rfl rfl rfl rfl rfl rfl ?_; intro q38 w cx hw38 hp38
  subst hp38
  refine s_val rfl rfl (v_move rfl rfl) ?_
  refine s_val rfl rfl (v_extract rfl rfl rfl) ?_
  refine s_val rfl rfl (v_extract rfl rfl rfl) ?_
  refine s_val rfl rfl (v_extract rfl rfl rfl) ?_
  refine s_val rfl rfl (v_extract rfl rfl rfl) ?_
  refine s_val rfl rfl (v_assign rfl rfl) ?_
  refine s_val rfl rfl (v_assign rfl rfl) ?_
  refine s_val rfl rfl (v_assign rfl rfl) ?_
  refine s_val rfl rfl (v_assign rfl rfl) ?_
  refine wpList_nil ?_
  refine wp_seq ?_
  refine wp_region_lit ?_
  refine s_val rfl rfl (v_move rfl rfl) ?_
  refine s_val rfl rfl (v_move rfl rfl) ?_
  refine s_val rfl rfl (v_fa fa35_1 rfl hs5) ?_
  refine s_store1 (v := .int .i64 x.size) cx 0 rfl rfl rfl rfl rfl rfl rfl rfl sz3 ?_; intro w cx hwS9_3
  refine s_val rfl rfl (v_fa fa35_2 rfl hs5) ?_
  refine s_store1 (v := .int .i64 x.depth) cx 0 rfl rfl rfl rfl rfl rfl rfl rfl sz3 ?_; intro w cx hwS9_5
  refine wpList_nil ?_
  refine wp_seq ?_
  refine wp_seq ?_
  refine wp_region_lit ?_
  refine s_val rfl rfl (v_move rfl hs7) ?_
  refine s_val rfl rfl (v_not rfl rfl) ?_
  refine s_val rfl rfl (v_move rfl rfl) ?_
  refine s_gval rfl rfl rfl (by first | exact w_ff rfl | exact w_gf rfl) (fun hc => v_move rfl (by first | exact gve hc rfl | exact gve (and_l hc) rfl | exact gve (and_l (and_l hc)) rfl | rfl)) ?_
  refine s_gval rfl rfl rfl (by first | exact w_ff rfl | exact w_gf rfl) (fun hc => v_not rfl (by first | exact gve hc rfl | exact gve (and_l hc) rfl | exact gve (and_l (and_l hc)) rfl | rfl)) ?_
  refine s_val rfl rfl (v_or rfl rfl rfl rfl) ?_
  refine s_val rfl rfl (v_move rfl rfl) ?_
  refine s_gval rfl rfl rfl (by first | exact w_ff rfl | exact w_gf rfl) (fun hc => v_move rfl hs4) ?_
  refine s_gval rfl rfl rfl (by first | exact w_ff rfl | exact w_gf rfl) (fun hc => v_lenSlice rfl (by first | exact gve hc rfl | exact gve (and_l hc) rfl | exact gve (and_l (and_l hc)) rfl | rfl) Tryz.underlying33) ?_
  refine s_gval rfl rfl rfl (by first | exact w_ff rfl | exact w_gf rfl) (fun hc => v_cmp rfl (by first | exact gve hc rfl | exact gve (and_l hc) rfl | exact gve (and_l (and_l hc)) rfl | rfl) rfl rfl) ?_
  refine s_val rfl rfl (v_or rfl rfl rfl rfl) ?_
  refine wpList_nil ?_
  refine c_split rfl (fun hc57 => ?_) (fun hc57 => ?_)
  · skip
    exfalso
    simp at hc57
    omega
  · skip
    try simp only [Bool.and_eq_true, Bool.or_eq_true, Bool.and_eq_false_iff, Bool.or_eq_false_iff, Bool.not_eq_true', Bool.not_eq_false', decide_eq_true_eq, decide_eq_false_iff_not, beq_iff_eq, beq_eq_false_iff_ne, bne_iff_ne, bne_eq_false_iff_eq, ne_eq, Classical.not_not] at hc57
    refine wp_skip ?_
    refine wp_seq ?_
    refine wp_seq ?_
    refine wp_region_lit ?_
    refine s_val rfl rfl (v_move rfl hs4) ?_
    refine s_val rfl rfl (v_move rfl hs4) ?_
    refine s_val rfl rfl (v_lenSlice rfl rfl Tryz.underlying33) ?_
    refine s_val rfl rfl (v_sub rfl rfl rfl (by omega) (by omega)) ?_
    refine s_val rfl rfl ((show (execOp _ _).run _ _ = .ok (.value (.slice (some ⟨g, 1, none⟩) ((linesX x).length - 1) ((linesX x).length))) _ from (v_slMid rfl rfl rfl rfl Tryz.underlying33 sz9 (by omega) (by omega) (by omega) (by omega)).trans (by rw [sl63]))) ?_
    refine s_val rfl rfl (v_lenSlice rfl rfl Tryz.underlying33) ?_
    refine s_val rfl rfl (v_move rfl rfl) ?_
    refine wpList_nil ?_
    refine wp_block ?_
    refine w_loop (fun k f w1 => ∃ i : Nat, k + i = (linesX x).length - 1 ∧ f 0 = .string (bs (textX x)) ∧ f 2 = .pointer (some ⟨b2, 0, none⟩) ∧ f 5 = .pointer (some ⟨b5, 0, none⟩) ∧ f 63 = .slice (some ⟨g, 1, none⟩) ((linesX x).length - 1) ((linesX x).length) ∧ f 64 = .int .i64 ((linesX x).length - 1 : Nat) ∧ f 65 = .int .i64 i ∧ PSt x b5 b2 g w0 w1 i) ((linesX x).length - 1) ?_ ?_
    · skip
      exact ⟨0, by omega, hs0, hs2, hs5, rfl, rfl, rfl, PSt.zero cx⟩
    intro gk13 f w hJ
    obtain ⟨i, hgi, hs0, hs2, hs5, hs63, hs64, hs65, hP⟩ := hJ
    refine wp_seq ?_
    refine wp_region_lit ?_
    refine s_val rfl rfl (v_cmp rfl hs65 hs64 rfl) ?_
    refine wpList_nil ?_
    refine wp_seq ?_
    refine c_split rfl (fun hc66 => ?_) (fun hc66 => ?_)
    · skip
      try simp only [Bool.and_eq_true, Bool.or_eq_true, Bool.and_eq_false_iff, Bool.or_eq_false_iff, Bool.not_eq_true', Bool.not_eq_false', decide_eq_true_eq, decide_eq_false_iff_not, beq_iff_eq, beq_eq_false_iff_ne, bne_iff_ne, bne_eq_false_iff_eq, ne_eq, Classical.not_not] at hc66
      obtain ⟨l, hli⟩ : ∃ l, (linesX x)[i + 1]? = some l := ⟨_, List.getElem?_eq_getElem (by omega)⟩
      refine wp_skip ?_
      refine wp_seq ?_
      refine wp_block ?_
      refine wp_seq ?_
      refine wp_region_lit ?_
      refine s_val rfl rfl (v_ia Tryz.underlying33 sz9 rfl hs63 hs65 (by omega) (by omega)) ?_
      refine s_val rfl rfl (v_load1 rfl rfl Tryz.underlying9 rfl (hP.cell hli (by omega))) ?_
      refine s_val rfl rfl (v_assign rfl rfl) ?_
      refine wpList_nil ?_
      refine wp_seq ?_
      refine wp_region_lit ?_
      refine s_val rfl rfl (v_move rfl rfl) ?_
      refine s_call (hP.step hli hx hne hnc hcn ht) Tryz.func57 rfl rfl rfl rfl rfl (cons_eq hs5 (cons_eq rfl rfl)) ?_; rintro v70 w ⟨hv70, hP2⟩; subst hv70
      refine s_val rfl rfl (v_not rfl rfl) ?_
      refine wpList_nil ?_
      refine wp_cond_false (show (St _ _).eval _ = _ by rw [eval_St]; rfl) ?_
      refine wp_skip ?_
      refine wp_region_lit ?_
      refine s_val rfl rfl (v_add rfl hs65 rfl (by omega) (by omega)) ?_
      refine s_val rfl rfl (v_move rfl rfl) ?_
      refine wpList_nil ?_
      exact ⟨gk13 - 1, _, by omega, rfl, i + 1, by omega, hs0, hs2, hs5, hs63, hs64, rfl, hP2⟩
    · skip
      try simp only [Bool.and_eq_true, Bool.or_eq_true, Bool.and_eq_false_iff, Bool.or_eq_false_iff, Bool.not_eq_true', Bool.not_eq_false', decide_eq_true_eq, decide_eq_false_iff_not, beq_iff_eq, beq_eq_false_iff_ne, bne_iff_ne, bne_eq_false_iff_eq, ne_eq, Classical.not_not] at hc66
      obtain ⟨ve, vc, R, cx, hX, hv1, hv2⟩ := hP.idx (by omega) hx
      refine wp_exit ?_
      refine wp_seq ?_
      refine wp_seq ?_
      refine wp_region_lit ?_
      refine s_val rfl rfl (v_load rfl hs5 Tryz.underlying35 rfl sz35 (cx.row 0 rfl) rfl) ?_
      refine s_fn cx (c21 _ x _ (hX _ _ cx) (ht.up cx.ext) hs) Tryz.func21 rfl rfl rfl rfl rfl rfl ?_; intro q76 w cx hw76 hp76
      rw [txtO_0 hx, hx] at hp76
      subst hp76
      refine s_val rfl rfl (v_move rfl rfl) ?_
      refine s_val rfl rfl (v_extract rfl rfl rfl) ?_
      refine s_val rfl rfl (v_extract rfl rfl rfl) ?_
      refine s_val rfl rfl (v_assign rfl rfl) ?_
      refine s_val rfl rfl (v_assign rfl rfl) ?_
      refine wpList_nil ?_
      refine wp_seq ?_
      refine wp_region_lit ?_
      refine s_val rfl rfl (v_move rfl rfl) ?_
      refine s_val rfl rfl (v_cmp rfl rfl rfl rfl) ?_
      refine s_val rfl rfl (v_move rfl rfl) ?_
      refine s_gval rfl rfl rfl (by first | exact w_ff rfl | exact w_gf rfl) (fun hc => v_move rfl (by first | exact gve hc rfl | exact gve (and_l hc) rfl | exact gve (and_l (and_l hc)) rfl | rfl)) ?_
      refine s_gval rfl rfl rfl (by first | exact w_ff rfl | exact w_gf rfl) (fun hc => v_move rfl hs0) ?_
      refine s_gval rfl rfl rfl (by first | exact w_ff rfl | exact w_gf rfl) (fun hc => v_neB rfl (by first | exact gve hc rfl | exact gve (and_l hc) rfl | exact gve (and_l (and_l hc)) rfl | rfl) (by first | exact gve hc rfl | exact gve (and_l hc) rfl | exact gve (and_l (and_l hc)) rfl | rfl)) ?_
      refine s_val rfl rfl (v_or rfl rfl rfl rfl) ?_
      refine wpList_nil ?_
      refine c_split rfl (fun hc85 => ?_) (fun hc85 => ?_)
      · skip
        exact absurd hc85 (by simp)
      · skip
        try simp only [Bool.and_eq_true, Bool.or_eq_true, Bool.and_eq_false_iff, Bool.or_eq_false_iff, Bool.not_eq_true', Bool.not_eq_false', decide_eq_true_eq, decide_eq_false_iff_not, beq_iff_eq, beq_eq_false_iff_ne, bne_iff_ne, bne_eq_false_iff_eq, ne_eq, Classical.not_not] at hc85
        refine wp_skip ?_
        refine wp_seq ?_
        refine wp_region_lit ?_
        refine s_val rfl rfl (v_load rfl hs5 Tryz.underlying35 rfl sz35 (cx.row 0 rfl) rfl) ?_
        refine s_storeAll cx 1 rfl rfl rfl hs2 rfl rfl sz35 rfl (by rw [List.all_eq_true]; intro v hv; simp only [List.mem_cons, List.not_mem_nil, or_false] at hv; rcases hv with rfl | rfl | rfl | rfl | rfl <;> first | rfl | assumption) ?_; intro w cx hwS21
        refine s_val rfl rfl (v_assign rfl rfl) ?_
        refine wpList_nil ?_
        refine wp_ret ?_
        refine ret_cell2 Tryz.results23 hs2 rfl (cx.at 1 rfl) Tryz.underlying35 rfl sz35 ?_
        exact ⟨cx.ext, _, rfl, hX _ _ cx⟩
end Go.Proofs.YthiafbkolhnadaaGreatDoor
end
section
set_option linter.unusedSimpArgs false
set_option linter.unusedVariables false
namespace Go.Proofs.YthiafbkolhnadaaGreatDoor
open Go Go.Dk Go.RowKit Go.Lib
attribute [local irreducible] Go.wpList Go.Code.wp Go.bodyPost Go.wpStill Go.wpQuiet
theorem ne48 (a1 b1 a2 b2 : Int) (w : World) :
    (binOp .neq 48 (.agg #[.int .i64 a1, .int .i64 a2]) (.agg #[.int .i64 b1, .int .i64 b2])).run Tryz.prog w = .ok (.bool (!(a1 == b1 && a2 == b2))) w := by
  go_simp
  by_cases h1 : a1 = b1 <;> by_cases h2 : a2 = b2 <;> simp [h1, h2]
theorem c20t (v u : Value) (l : List Stp) (w0 : World) (hv : Pth w0 v l) (hu : Pth w0 u l) (hl : l.length ≤ 140737488355328) : Fc Tryz.prog 20 [v, u] w0 (fun v _ => v = .bool true) :=
  (c20 v u l l w0 hv hu hl hl).mono fun v w' _ ⟨r, hv, hr⟩ => by rw [hv, hr.2 rfl]
set_option maxHeartbeats 4000000 in
set_option maxRecDepth 10000 in
theorem c11 (r1 r2 : List Value) (x : Idx) (w0 : World) (h1 : IdxV w0 x r1) (h2 : IdxV w0 x r2) (hs : Szd x) : Fc Tryz.prog 11 [.agg r1.toArray, .agg r2.toArray] w0 (IsB fun b => b = true) := by
  obtain ⟨ve, vc, rfl, hE, hC⟩ := h1
  obtain ⟨a, c, b, o, rfl, ha, hr⟩ := hE.form
  obtain ⟨a2, c2, b2, o2, rfl, ha2, hr2⟩ := hC.form
  obtain ⟨ue, uc, rfl, hE2, hC2⟩ := h2
  obtain ⟨d, k, bb, oo, rfl, hd, hq⟩ := hE2.form
  obtain ⟨d2, k2, bb2, oo2, rfl, hd2, hq2⟩ := hC2.form
  have hel := hs.el
  have hcl := hs.cl
  refine ret_enter Tryz.func11 rfl Tryz.ntmps11 rfl ?_
  have cx := Ctx.start w0
  refine wp_seq ?_
  refine wp_region_lit ?_
  refine s_box cx rfl rfl rfl rfl rfl ?_; intro b2 w cx hb2 hw2
  refine s_box cx rfl rfl rfl rfl rfl ?_; intro b3 w cx hb3 hw3
  refine s_val rfl rfl (v_assign rfl rfl) ?_
  refine wpList_nil ?_
  refine wp_seq ?_
  refine wp_seq ?_
  refine wp_region_lit ?_
  refine s_val rfl rfl (v_fa fa35_0 rfl rfl) ?_
  refine s_val rfl rfl (v_load1 rfl rfl Tryz.underlying3 rfl (cx.cell 1 rfl rfl)) ?_
  refine s_val rfl rfl (v_fa fa35_0 rfl rfl) ?_
  refine s_val rfl rfl (v_load1 rfl rfl Tryz.underlying3 rfl (cx.cell 0 rfl rfl)) ?_
  refine s_val rfl rfl (v_cmp rfl rfl rfl rfl) ?_
  refine s_val rfl rfl (v_move rfl rfl) ?_
  refine s_gval rfl rfl rfl (by first | exact w_ff rfl | exact w_gf rfl) (fun hc => v_fa fa35_1 rfl (by first | exact gve hc rfl | exact gve (and_l hc) rfl | exact gve (and_l (and_l hc)) rfl | rfl)) ?_
  refine s_gval rfl rfl rfl (by first | exact w_ff rfl | exact w_gf rfl) (fun hc => v_load1 rfl (by first | exact gve hc rfl | exact gve (and_l hc) rfl | exact gve (and_l (and_l hc)) rfl | rfl) Tryz.underlying3 rfl (cx.cell 1 rfl rfl)) ?_
  refine s_gval rfl rfl rfl (by first | exact w_ff rfl | exact w_gf rfl) (fun hc => v_fa fa35_1 rfl (by first | exact gve hc rfl | exact gve (and_l hc) rfl | exact gve (and_l (and_l hc)) rfl | rfl)) ?_
  refine s_gval rfl rfl rfl (by first | exact w_ff rfl | exact w_gf rfl) (fun hc => v_load1 rfl (by first | exact gve hc rfl | exact gve (and_l hc) rfl | exact gve (and_l (and_l hc)) rfl | rfl) Tryz.underlying3 rfl (cx.cell 0 rfl rfl)) ?_
  refine s_gval rfl rfl rfl (by first | exact w_ff rfl | exact w_gf rfl) (fun hc => v_cmp rfl (by first | exact gve hc rfl | exact gve (and_l hc) rfl | exact gve (and_l (and_l hc)) rfl | rfl) (by first | exact gve hc rfl | exact gve (and_l hc) rfl | exact gve (and_l (and_l hc)) rfl | rfl) rfl) ?_
  refine s_val rfl rfl (v_or rfl rfl rfl rfl) ?_
  refine s_val rfl rfl (v_move rfl rfl) ?_
  refine s_gval rfl rfl rfl (by first | exact w_ff rfl | exact w_gf rfl) (fun hc => v_fa fa35_2 rfl (by first | exact gve hc rfl | exact gve (and_l hc) rfl | exact gve (and_l (and_l hc)) rfl | rfl)) ?_
  refine s_gval rfl rfl rfl (by first | exact w_ff rfl | exact w_gf rfl) (fun hc => v_load1 rfl (by first | exact gve hc rfl | exact gve (and_l hc) rfl | exact gve (and_l (and_l hc)) rfl | rfl) Tryz.underlying3 rfl (cx.cell 1 rfl rfl)) ?_
  refine s_gval rfl rfl rfl (by first | exact w_ff rfl | exact w_gf rfl) (fun hc => v_fa fa35_2 rfl (by first | exact gve hc rfl | exact gve (and_l hc) rfl | exact gve (and_l (and_l hc)) rfl | rfl)) ?_
  refine s_gval rfl rfl rfl (by first | exact w_ff rfl | exact w_gf rfl) (fun hc => v_load1 rfl (by first | exact gve hc rfl | exact gve (and_l hc) rfl | exact gve (and_l (and_l hc)) rfl | rfl) Tryz.underlying3 rfl (cx.cell 0 rfl rfl)) ?_
  refine s_gval rfl rfl rfl (by first | exact w_ff rfl | exact w_gf rfl) (fun hc => v_cmp rfl (by first | exact gve hc rfl | exact gve (and_l hc) rfl | exact gve (and_l (and_l hc)) rfl | rfl) (by first | exact gve hc rfl | exact gve (and_l hc) rfl | exact gve (and_l (and_l hc)) rfl | rfl) rfl) ?_
  refine s_val rfl rfl (v_or rfl rfl rfl rfl) ?_
  refine s_val rfl rfl (v_move rfl rfl) ?_
  refine s_gval rfl rfl rfl (by first | exact w_ff rfl | exact w_gf rfl) (fun hc => v_fa fa35_4 rfl (by first | exact gve hc rfl | exact gve (and_l hc) rfl | exact gve (and_l (and_l hc)) rfl | rfl)) ?_
  refine s_gval rfl rfl rfl (by first | exact w_ff rfl | exact w_gf rfl) (fun hc => v_load1 rfl (by first | exact gve hc rfl | exact gve (and_l hc) rfl | exact gve (and_l (and_l hc)) rfl | rfl) Tryz.underlying33 rfl (cx.cell 1 rfl rfl)) ?_
  refine s_gval rfl rfl rfl (by first | exact w_ff rfl | exact w_gf rfl) (fun hc => v_lenSlice rfl (by first | exact gve hc rfl | exact gve (and_l hc) rfl | exact gve (and_l (and_l hc)) rfl | rfl) Tryz.underlying33) ?_
  refine s_gval rfl rfl rfl (by first | exact w_ff rfl | exact w_gf rfl) (fun hc => v_fa fa35_4 rfl (by first | exact gve hc rfl | exact gve (and_l hc) rfl | exact gve (and_l (and_l hc)) rfl | rfl)) ?_
  refine s_gval rfl rfl rfl (by first | exact w_ff rfl | exact w_gf rfl) (fun hc => v_load1 rfl (by first | exact gve hc rfl | exact gve (and_l hc) rfl | exact gve (and_l (and_l hc)) rfl | rfl) Tryz.underlying33 rfl (cx.cell 0 rfl rfl)) ?_
  refine s_gval rfl rfl rfl (by first | exact w_ff rfl | exact w_gf rfl) (fun hc => v_lenSlice rfl (by first | exact gve hc rfl | exact gve (and_l hc) rfl | exact gve (and_l (and_l hc)) rfl | rfl) Tryz.underlying33) ?_
  refine s_gval rfl rfl rfl (by first | exact w_ff rfl | exact w_gf rfl) (fun hc => v_cmp rfl (by first | exact gve hc rfl | exact gve (and_l hc) rfl | exact gve (and_l (and_l hc)) rfl | rfl) (by first | exact gve hc rfl | exact gve (and_l hc) rfl | exact gve (and_l (and_l hc)) rfl | rfl) rfl) ?_
  refine s_val rfl rfl (v_or rfl rfl rfl rfl) ?_
  refine s_val rfl rfl (v_move rfl rfl) ?_
  refine s_gval rfl rfl rfl (by first | exact w_ff rfl | exact w_gf rfl) (fun hc => v_fa fa35_3 rfl (by first | exact gve hc rfl | exact gve (and_l hc) rfl | exact gve (and_l (and_l hc)) rfl | rfl)) ?_
  refine s_gval rfl rfl rfl (by first | exact w_ff rfl | exact w_gf rfl) (fun hc => v_load1 rfl (by first | exact gve hc rfl | exact gve (and_l hc) rfl | exact gve (and_l (and_l hc)) rfl | rfl) Tryz.underlying32 rfl (cx.cell 1 rfl rfl)) ?_
  refine s_gval rfl rfl rfl (by first | exact w_ff rfl | exact w_gf rfl) (fun hc => v_lenSlice rfl (by first | exact gve hc rfl | exact gve (and_l hc) rfl | exact gve (and_l (and_l hc)) rfl | rfl) Tryz.underlying32) ?_
  refine s_gval rfl rfl rfl (by first | exact w_ff rfl | exact w_gf rfl) (fun hc => v_fa fa35_3 rfl (by first | exact gve hc rfl | exact gve (and_l hc) rfl | exact gve (and_l (and_l hc)) rfl | rfl)) ?_
  refine s_gval rfl rfl rfl (by first | exact w_ff rfl | exact w_gf rfl) (fun hc => v_load1 rfl (by first | exact gve hc rfl | exact gve (and_l hc) rfl | exact gve (and_l (and_l hc)) rfl | rfl) Tryz.underlying32 rfl (cx.cell 0 rfl rfl)) ?_
  refine s_gval rfl rfl rfl (by first | exact w_ff rfl | exact w_gf rfl) (fun hc => v_lenSlice rfl (by first | exact gve hc rfl | exact gve (and_l hc) rfl | exact gve (and_l (and_l hc)) rfl | rfl) Tryz.underlying32) ?_
  refine s_gval rfl rfl rfl (by first | exact w_ff rfl | exact w_gf rfl) (fun hc => v_cmp rfl (by first | exact gve hc rfl | exact gve (and_l hc) rfl | exact gve (and_l (and_l hc)) rfl | rfl) (by first | exact gve hc rfl | exact gve (and_l hc) rfl | exact gve (and_l (and_l hc)) rfl | rfl) rfl) ?_
  refine s_val rfl rfl (v_or rfl rfl rfl rfl) ?_
  refine wpList_nil ?_
  refine c_split rfl (fun hc43 => ?_) (fun hc43 => ?_)
  · skip
    exact absurd hc43 (by simp)
  · skip
    try simp only [Bool.and_eq_true, Bool.or_eq_true, Bool.and_eq_false_iff, Bool.or_eq_false_iff, Bool.not_eq_true', Bool.not_eq_false', decide_eq_true_eq, decide_eq_false_iff_not, beq_iff_eq, beq_eq_false_iff_ne, bne_iff_ne, bne_eq_false_iff_eq, ne_eq, Classical.not_not] at hc43
    refine wp_skip ?_
    refine wp_seq ?_
    refine wp_seq ?_
    refine wp_region_lit ?_
    refine s_val rfl rfl (v_assign rfl rfl) ?_
    refine wpList_nil ?_
    refine wp_block ?_
    refine w_loop (fun g f w1 => ∃ i b1 b3 : Nat, g + i = x.cols.length ∧ f 2 = .pointer (some ⟨b1, 0, none⟩) ∧ f 3 = .pointer (some ⟨b3, 0, none⟩) ∧ f 5 = .int .i64 i ∧ Ctx w0 w1 [(b3, .cells ([.int .i64 x.fmt, .int .i64 x.size, .int .i64 x.depth, .slice d x.ents.length k, .slice d2 x.cols.length k2] : List Value).toArray 35), (b1, .cells ([.int .i64 x.fmt, .int .i64 x.size, .int .i64 x.depth, .slice a x.ents.length c, .slice a2 x.cols.length c2] : List Value).toArray 35)]) (x.cols.length) ?_ ?_
    · skip
      exact ⟨0, _, _, by omega, rfl, rfl, rfl, cx⟩
    intro gk4 f w hJ
    obtain ⟨i, b1, b3, hgi, hs2, hs3, hs5, cx⟩ := hJ
    refine wp_seq ?_
    refine wp_seq ?_
    refine wp_region_lit ?_
    refine s_val rfl rfl (v_move rfl hs5) ?_
    refine s_val rfl rfl (v_fa fa35_4 rfl hs2) ?_
    refine s_val rfl rfl (v_load1 rfl rfl Tryz.underlying33 rfl (cx.cell 1 rfl rfl)) ?_
    refine s_val rfl rfl (v_lenSlice rfl rfl Tryz.underlying33) ?_
    refine s_val rfl rfl (v_cmp rfl rfl rfl rfl) ?_
    refine wpList_nil ?_
    refine c_split rfl (fun hc48 => ?_) (fun hc48 => ?_)
    · skip
      try simp only [Bool.and_eq_true, Bool.or_eq_true, Bool.and_eq_false_iff, Bool.or_eq_false_iff, Bool.not_eq_true', Bool.not_eq_false', decide_eq_true_eq, decide_eq_false_iff_not, beq_iff_eq, beq_eq_false_iff_ne, bne_iff_ne, bne_eq_false_iff_eq, ne_eq, Classical.not_not] at hc48
      obtain ⟨y, hy⟩ : ∃ y, x.cols[i]? = some y := ⟨x.cols[i]'(by omega), List.getElem?_eq_getElem _⟩
      have hrw := hr2 i y hy
      have hrx := hq2 i y hy
      obtain rfl := ha2 (by omega)
      obtain rfl := hd2 (by omega)
      refine wp_skip ?_
      refine wp_seq ?_
      refine wp_block ?_
      refine wp_seq ?_
      refine w_quiet cx mixed (by kernel_rfl) ?_
      refine q_val rfl rfl (fun w cx hwQ => v_fa fa35_4 rfl hs2) ?_
      refine q_val rfl rfl (fun w cx hwQ => v_load1 rfl rfl Tryz.underlying33 rfl (cx.cell 1 rfl rfl)) ?_
      refine q_val rfl rfl (fun w cx hwQ => v_move rfl hs5) ?_
      refine q_val rfl rfl (fun w cx hwQ => v_ia Tryz.underlying33 sz9 rfl rfl rfl (by omega) (by omega)) ?_
      refine q_val rfl rfl (fun w cx hwQ => v_load1 rfl rfl Tryz.underlying9 rfl ((hrw.up cx.ext).cell 0 rfl)) ?_
      refine q_val rfl rfl (fun w cx hwQ => v_fa fa35_4 rfl hs3) ?_
      refine q_val rfl rfl (fun w cx hwQ => v_load1 rfl rfl Tryz.underlying33 rfl (cx.cell 0 rfl rfl)) ?_
      refine q_val rfl rfl (fun w cx hwQ => v_move rfl hs5) ?_
      refine q_val rfl rfl (fun w cx hwQ => v_ia Tryz.underlying33 sz9 rfl rfl rfl (by omega) (by omega)) ?_
      refine q_val rfl rfl (fun w cx hwQ => v_load1 rfl rfl Tryz.underlying9 rfl ((hrx.up cx.ext).cell 0 rfl)) ?_
      refine q_val rfl rfl (fun w cx hwQ => v_strNe rfl rfl rfl) ?_
      refine q_nil ?_; rintro w ⟨cx, hwQ6⟩
      refine c_split rfl (fun hc61 => ?_) (fun hc61 => ?_)
      · skip
        exact absurd hc61 (by simp)
      · skip
        try simp only [Bool.and_eq_true, Bool.or_eq_true, Bool.and_eq_false_iff, Bool.or_eq_false_iff, Bool.not_eq_true', Bool.not_eq_false', decide_eq_true_eq, decide_eq_false_iff_not, beq_iff_eq, beq_eq_false_iff_ne, bne_iff_ne, bne_eq_false_iff_eq, ne_eq, Classical.not_not] at hc61
        refine wp_skip ?_
        refine wp_region_lit ?_
        refine s_val rfl rfl (v_move rfl hs5) ?_
        refine s_val rfl rfl (v_add rfl rfl rfl (by omega) (by omega)) ?_
        refine s_val rfl rfl (v_assign rfl rfl) ?_
        refine wpList_nil ?_
        exact ⟨gk4 - 1, _, by omega, rfl, i + 1, b1, b3, by omega, hs2, hs3, rfl, cx⟩
    · skip
      try simp only [Bool.and_eq_true, Bool.or_eq_true, Bool.and_eq_false_iff, Bool.or_eq_false_iff, Bool.not_eq_true', Bool.not_eq_false', decide_eq_true_eq, decide_eq_false_iff_not, beq_iff_eq, beq_eq_false_iff_ne, bne_iff_ne, bne_eq_false_iff_eq, ne_eq, Classical.not_not] at hc48
      refine wp_exit ?_
      refine wp_seq ?_
      refine wp_seq ?_
      refine wp_region_lit ?_
      refine s_val rfl rfl (v_assign rfl rfl) ?_
      refine wpList_nil ?_
      refine wp_block ?_
      refine w_loop (fun g f w1 => ∃ i b1 b3 : Nat, g + i = x.ents.length ∧ f 2 = .pointer (some ⟨b1, 0, none⟩) ∧ f 3 = .pointer (some ⟨b3, 0, none⟩) ∧ f 6 = .int .i64 i ∧ Ctx w0 w1 [(b3, .cells ([.int .i64 x.fmt, .int .i64 x.size, .int .i64 x.depth, .slice d x.ents.length k, .slice d2 x.cols.length k2] : List Value).toArray 35), (b1, .cells ([.int .i64 x.fmt, .int .i64 x.size, .int .i64 x.depth, .slice a x.ents.length c, .slice a2 x.cols.length c2] : List Value).toArray 35)]) (x.ents.length) ?_ ?_
      · skip
        exact ⟨0, b1, b3, by omega, hs2, hs3, rfl, cx⟩
      intro gk9 f w hJ
      obtain ⟨i, b1, b3, hgi, hs2, hs3, hs6, cx⟩ := hJ
      refine wp_seq ?_
      refine wp_seq ?_
      refine wp_region_lit ?_
      refine s_val rfl rfl (v_move rfl hs6) ?_
      refine s_val rfl rfl (v_fa fa35_3 rfl hs2) ?_
      refine s_val rfl rfl (v_load1 rfl rfl Tryz.underlying32 rfl (cx.cell 1 rfl rfl)) ?_
      refine s_val rfl rfl (v_lenSlice rfl rfl Tryz.underlying32) ?_
      refine s_val rfl rfl (v_cmp rfl rfl rfl rfl) ?_
      refine wpList_nil ?_
      refine c_split rfl (fun hc66 => ?_) (fun hc66 => ?_)
      · skip
        try simp only [Bool.and_eq_true, Bool.or_eq_true, Bool.and_eq_false_iff, Bool.or_eq_false_iff, Bool.not_eq_true', Bool.not_eq_false', decide_eq_true_eq, decide_eq_false_iff_not, beq_iff_eq, beq_eq_false_iff_ne, bne_iff_ne, bne_eq_false_iff_eq, ne_eq, Classical.not_not] at hc66
        obtain ⟨e, he⟩ : ∃ e, x.ents[i]? = some e := ⟨x.ents[i]'(by omega), List.getElem?_eq_getElem _⟩
        obtain ⟨p, hrw, hp⟩ := hr i e he
        obtain ⟨p2, hrx, hp2⟩ := hq i e he
        obtain rfl := ha (by omega)
        obtain rfl := hd (by omega)
        have hpl := hs.pl e (List.mem_of_getElem? he)
        refine wp_skip ?_
        refine wp_seq ?_
        refine wp_block ?_
        refine wp_seq ?_
        refine w_quiet cx mixed (by kernel_rfl) ?_
        refine q_val rfl rfl (fun w cx hwQ => v_fa fa35_3 rfl hs2) ?_
        refine q_val rfl rfl (fun w cx hwQ => v_load1 rfl rfl Tryz.underlying32 rfl (cx.cell 1 rfl rfl)) ?_
        refine q_val rfl rfl (fun w cx hwQ => v_move rfl hs6) ?_
        refine q_val rfl rfl (fun w cx hwQ => v_ia Tryz.underlying32 sz52 rfl rfl rfl (by omega) (by omega)) ?_
        refine q_val rfl rfl (fun w cx hwQ => v_fa fa52_1 rfl rfl) ?_
        refine q_val rfl rfl (fun w cx hwQ => v_load rfl rfl Tryz.underlying48 rfl sz48 (l := [.int .i64 e.fr, .int .i64 e.to]) ((hrw.up cx.ext).sub 1 rfl) rfl) ?_
        refine q_val rfl rfl (fun w cx hwQ => v_fa fa35_3 rfl hs3) ?_
        refine q_val rfl rfl (fun w cx hwQ => v_load1 rfl rfl Tryz.underlying32 rfl (cx.cell 0 rfl rfl)) ?_
        refine q_val rfl rfl (fun w cx hwQ => v_move rfl hs6) ?_
        refine q_val rfl rfl (fun w cx hwQ => v_ia Tryz.underlying32 sz52 rfl rfl rfl (by omega) (by omega)) ?_
        refine q_val rfl rfl (fun w cx hwQ => v_fa fa52_1 rfl rfl) ?_
        refine q_val rfl rfl (fun w cx hwQ => v_load rfl rfl Tryz.underlying48 rfl sz48 (l := [.int .i64 e.fr, .int .i64 e.to]) ((hrx.up cx.ext).sub 1 rfl) rfl) ?_
        refine q_val rfl rfl (fun w cx hwQ => v_agg eqg48 (ne48 _ _ _ _) rfl rfl rfl) ?_
        refine q_val rfl rfl (fun w cx hwQ => v_move rfl rfl) ?_
        refine q_gval rfl rfl rfl (by first | exact w_ff rfl | exact w_gf rfl) (fun hc w cx hwQ => v_fa fa35_3 rfl hs2) ?_
        refine q_gval rfl rfl rfl (by first | exact w_ff rfl | exact w_gf rfl) (fun hc w cx hwQ => v_load1 rfl (by first | exact gve hc rfl | exact gve (and_l hc) rfl | exact gve (and_l (and_l hc)) rfl | rfl) Tryz.underlying32 rfl (cx.cell 1 rfl rfl)) ?_
        refine q_gval rfl rfl rfl (by first | exact w_ff rfl | exact w_gf rfl) (fun hc w cx hwQ => v_move rfl hs6) ?_
        refine q_gval rfl rfl rfl (by first | exact w_ff rfl | exact w_gf rfl) (fun hc w cx hwQ => v_ia Tryz.underlying32 sz52 rfl (by first | exact gve hc rfl | exact gve (and_l hc) rfl | exact gve (and_l (and_l hc)) rfl | rfl) (by first | exact gve hc rfl | exact gve (and_l hc) rfl | exact gve (and_l (and_l hc)) rfl | rfl) (by first | omega | (simp only [Bool.and_eq_true, Bool.or_eq_true, Bool.and_eq_false_iff, Bool.or_eq_false_iff, Bool.not_eq_true', Bool.not_eq_false', decide_eq_true_eq, decide_eq_false_iff_not, beq_iff_eq, beq_eq_false_iff_ne, bne_iff_ne, bne_eq_false_iff_eq, ne_eq, Classical.not_not] at hc; omega)) (by first | omega | (simp only [Bool.and_eq_true, Bool.or_eq_true, Bool.and_eq_false_iff, Bool.or_eq_false_iff, Bool.not_eq_true', Bool.not_eq_false', decide_eq_true_eq, decide_eq_false_iff_not, beq_iff_eq, beq_eq_false_iff_ne, bne_iff_ne, bne_eq_false_iff_eq, ne_eq, Classical.not_not] at hc; omega))) ?_
        refine q_gval rfl rfl rfl (by first | exact w_ff rfl | exact w_gf rfl) (fun hc w cx hwQ => v_fa fa52_0 rfl (by first | exact gve hc rfl | exact gve (and_l hc) rfl | exact gve (and_l (and_l hc)) rfl | rfl)) ?_
        refine q_gval rfl rfl rfl (by first | exact w_ff rfl | exact w_gf rfl) (fun hc w cx hwQ => v_load1 rfl (by first | exact gve hc rfl | exact gve (and_l hc) rfl | exact gve (and_l (and_l hc)) rfl | rfl) Tryz.underlying28 rfl ((hrw.up cx.ext).cell 0 rfl)) ?_
        refine q_gval rfl rfl rfl (by first | exact w_ff rfl | exact w_gf rfl) (fun hc w cx hwQ => v_fa fa35_3 rfl hs3) ?_
        refine q_gval rfl rfl rfl (by first | exact w_ff rfl | exact w_gf rfl) (fun hc w cx hwQ => v_load1 rfl (by first | exact gve hc rfl | exact gve (and_l hc) rfl | exact gve (and_l (and_l hc)) rfl | rfl) Tryz.underlying32 rfl (cx.cell 0 rfl rfl)) ?_
        refine q_gval rfl rfl rfl (by first | exact w_ff rfl | exact w_gf rfl) (fun hc w cx hwQ => v_move rfl hs6) ?_
        refine q_gval rfl rfl rfl (by first | exact w_ff rfl | exact w_gf rfl) (fun hc w cx hwQ => v_ia Tryz.underlying32 sz52 rfl (by first | exact gve hc rfl | exact gve (and_l hc) rfl | exact gve (and_l (and_l hc)) rfl | rfl) (by first | exact gve hc rfl | exact gve (and_l hc) rfl | exact gve (and_l (and_l hc)) rfl | rfl) (by first | omega | (simp only [Bool.and_eq_true, Bool.or_eq_true, Bool.and_eq_false_iff, Bool.or_eq_false_iff, Bool.not_eq_true', Bool.not_eq_false', decide_eq_true_eq, decide_eq_false_iff_not, beq_iff_eq, beq_eq_false_iff_ne, bne_iff_ne, bne_eq_false_iff_eq, ne_eq, Classical.not_not] at hc; omega)) (by first | omega | (simp only [Bool.and_eq_true, Bool.or_eq_true, Bool.and_eq_false_iff, Bool.or_eq_false_iff, Bool.not_eq_true', Bool.not_eq_false', decide_eq_true_eq, decide_eq_false_iff_not, beq_iff_eq, beq_eq_false_iff_ne, bne_iff_ne, bne_eq_false_iff_eq, ne_eq, Classical.not_not] at hc; omega))) ?_
        refine q_gval rfl rfl rfl (by first | exact w_ff rfl | exact w_gf rfl) (fun hc w cx hwQ => v_fa fa52_0 rfl (by first | exact gve hc rfl | exact gve (and_l hc) rfl | exact gve (and_l (and_l hc)) rfl | rfl)) ?_
        refine q_gval rfl rfl rfl (by first | exact w_ff rfl | exact w_gf rfl) (fun hc w cx hwQ => v_load1 rfl (by first | exact gve hc rfl | exact gve (and_l hc) rfl | exact gve (and_l (and_l hc)) rfl | rfl) Tryz.underlying28 rfl ((hrx.up cx.ext).cell 0 rfl)) ?_
        refine q_gcall (v := .bool true) rfl rfl rfl (by first | exact w_ff rfl | exact w_gf rfl) (fun hc => runs_fn Tryz.func20 rfl rfl rfl (cons_eq (by first | exact gve hc rfl | exact gve (and_l hc) rfl | rfl) (cons_eq (by first | exact gve hc rfl | exact gve (and_l hc) rfl | rfl) rfl))) (fun hc w cx hwQ => c20t _ _ e.path _ (hp.up cx.ext) (hp2.up cx.ext) (by omega)) ?_
        refine q_gval rfl rfl rfl (by first | exact w_ff rfl | exact w_gf rfl) (fun hc w cx hwQ => v_not rfl (by first | exact gve hc rfl | exact gve (and_l hc) rfl | exact gve (and_l (and_l hc)) rfl | rfl)) ?_
        refine q_val rfl rfl (fun w cx hwQ => v_or rfl rfl rfl rfl) ?_
        refine q_nil ?_; rintro w ⟨cx, hwQ11⟩
        refine c_split rfl (fun hc97 => ?_) (fun hc97 => ?_)
        · skip
          exact absurd hc97 (by simp)
        · skip
          try simp only [Bool.and_eq_true, Bool.or_eq_true, Bool.and_eq_false_iff, Bool.or_eq_false_iff, Bool.not_eq_true', Bool.not_eq_false', decide_eq_true_eq, decide_eq_false_iff_not, beq_iff_eq, beq_eq_false_iff_ne, bne_iff_ne, bne_eq_false_iff_eq, ne_eq, Classical.not_not] at hc97
          refine wp_skip ?_
          refine wp_region_lit ?_
          refine s_val rfl rfl (v_move rfl hs6) ?_
          refine s_val rfl rfl (v_add rfl rfl rfl (by omega) (by omega)) ?_
          refine s_val rfl rfl (v_assign rfl rfl) ?_
          refine wpList_nil ?_
          exact ⟨gk9 - 1, _, by omega, rfl, i + 1, b1, b3, by omega, hs2, hs3, rfl, cx⟩
      · skip
        try simp only [Bool.and_eq_true, Bool.or_eq_true, Bool.and_eq_false_iff, Bool.or_eq_false_iff, Bool.not_eq_true', Bool.not_eq_false', decide_eq_true_eq, decide_eq_false_iff_not, beq_iff_eq, beq_eq_false_iff_ne, bne_iff_ne, bne_eq_false_iff_eq, ne_eq, Classical.not_not] at hc66
        refine wp_exit ?_
        refine wp_seq ?_
        refine wp_region_lit ?_
        refine s_val rfl rfl (v_assign rfl rfl) ?_
        refine wpList_nil ?_
        refine wp_ret ?_
        refine ret_tmp Tryz.results11 rfl ?_
        exact ⟨cx.ext, true, rfl, rfl⟩
set_option maxHeartbeats 4000000 in
set_option maxRecDepth 10000 in
theorem c12 (x : Idx) (a a2 : Option Addr) (c c2 : Nat) (w0 : World) : Fc Tryz.prog 12 [.agg ([.int .i64 x.fmt, .int .i64 x.size, .int .i64 x.depth, .slice a x.ents.length c, .slice a2 x.cols.length c2] : List Value).toArray] w0 (IsB fun b => b = true ↔ x.ents.length ≤ 60 ∧ x.cols.length ≤ 30) := by
  refine ret_enter Tryz.func12 rfl Tryz.ntmps12 rfl ?_
  have cx := Ctx.start w0
  refine wp_seq ?_
  refine wp_region_lit ?_
  refine s_box cx rfl rfl rfl rfl rfl ?_; intro b1 w cx hb1 hw1
  refine s_val rfl rfl (v_assign rfl rfl) ?_
  refine wpList_nil ?_
  refine wp_seq ?_
  refine wp_region_lit ?_
  refine s_val rfl rfl (v_fa fa35_3 rfl rfl) ?_
  refine s_val rfl rfl (v_load1 rfl rfl Tryz.underlying32 rfl (cx.cell 0 rfl rfl)) ?_
  refine s_val rfl rfl (v_lenSlice rfl rfl Tryz.underlying32) ?_
  refine s_val rfl rfl (v_cmp rfl rfl rfl rfl) ?_
  refine s_val rfl rfl (v_move rfl rfl) ?_
  refine s_gval rfl rfl rfl (by first | exact w_tt rfl | exact w_gt rfl) (fun hc => v_fa fa35_4 rfl (by first | exact gve hc rfl | exact gve (and_l hc) rfl | exact gve (and_l (and_l hc)) rfl | rfl)) ?_
  refine s_gval rfl rfl rfl (by first | exact w_tt rfl | exact w_gt rfl) (fun hc => v_load1 rfl (by first | exact gve hc rfl | exact gve (and_l hc) rfl | exact gve (and_l (and_l hc)) rfl | rfl) Tryz.underlying33 rfl (cx.cell 0 rfl rfl)) ?_
  refine s_gval rfl rfl rfl (by first | exact w_tt rfl | exact w_gt rfl) (fun hc => v_lenSlice rfl (by first | exact gve hc rfl | exact gve (and_l hc) rfl | exact gve (and_l (and_l hc)) rfl | rfl) Tryz.underlying33) ?_
  refine s_gval rfl rfl rfl (by first | exact w_tt rfl | exact w_gt rfl) (fun hc => v_cmp rfl (by first | exact gve hc rfl | exact gve (and_l hc) rfl | exact gve (and_l (and_l hc)) rfl | rfl) rfl rfl) ?_
  refine s_val rfl rfl (v_and rfl rfl rfl rfl) ?_
  refine s_val rfl rfl (v_assign rfl rfl) ?_
  refine wpList_nil ?_
  refine wp_ret ?_
  refine ret_tmp Tryz.results12 rfl ?_
  refine ⟨cx.ext, _, rfl, ?_⟩
  simp only [Bool.and_eq_true, decide_eq_true_eq]
  omega
set_option maxHeartbeats 4000000 in
set_option maxRecDepth 10000 in
theorem lawT (x : Idx) (a a2 : Option Addr) (c c2 : Nat) (w0 : World) (hX : IdxV w0 x [.int .i64 x.fmt, .int .i64 x.size, .int .i64 x.depth, .slice a x.ents.length c, .slice a2 x.cols.length c2]) (ht : Tabs w0) (hcn : Cnt w0) (hs : Szd x) : Fc Tryz.prog 5 [.agg ([.int .i64 x.fmt, .int .i64 x.size, .int .i64 x.depth, .slice a x.ents.length c, .slice a2 x.cols.length c2] : List Value).toArray] w0 (IsB fun b => b = true) := by
  refine ret_enter Tryz.func5 rfl Tryz.ntmps5 rfl ?_
  have cx := Ctx.start w0
  refine wp_seq ?_
  refine wp_region_lit ?_
  refine s_box cx rfl rfl rfl rfl rfl ?_; intro b1 w cx hb1 hw1
  refine s_val rfl rfl (v_assign rfl rfl) ?_
  refine wpList_nil ?_
  refine wp_seq ?_
  refine wp_seq ?_
  refine wp_region_lit ?_
  refine s_val rfl rfl (v_load rfl rfl Tryz.underlying35 rfl sz35 (cx.row 0 rfl) rfl) ?_
  refine s_fnB cx (c12 x a a2 c c2 _) Tryz.func12 rfl rfl rfl rfl rfl rfl ?_; intro q10 w cx hw10 hp10
  refine s_val rfl rfl (v_not rfl rfl) ?_
  refine wpList_nil ?_
  refine c_split rfl (fun hc11 => ?_) (fun hc11 => ?_)
  · skip
    try simp only [Bool.and_eq_true, Bool.or_eq_true, Bool.and_eq_false_iff, Bool.or_eq_false_iff, Bool.not_eq_true', Bool.not_eq_false', decide_eq_true_eq, decide_eq_false_iff_not, beq_iff_eq, beq_eq_false_iff_ne, bne_iff_ne, bne_eq_false_iff_eq, ne_eq, Classical.not_not] at hc11
    refine wp_seq ?_
    refine wp_region_lit ?_
    refine s_fnB cx (c8 _) Tryz.func8 rfl rfl rfl rfl rfl rfl ?_; intro q12 w cx hw12 hp12
    refine s_val rfl rfl (v_assign rfl rfl) ?_
    refine wpList_nil ?_
    refine wp_ret ?_
    refine ret_tmp Tryz.results5 rfl ?_
    exact ⟨cx.ext, _, rfl, hp12⟩
  · skip
    try simp only [Bool.and_eq_true, Bool.or_eq_true, Bool.and_eq_false_iff, Bool.or_eq_false_iff, Bool.not_eq_true', Bool.not_eq_false', decide_eq_true_eq, decide_eq_false_iff_not, beq_iff_eq, beq_eq_false_iff_ne, bne_iff_ne, bne_eq_false_iff_eq, ne_eq, Classical.not_not] at hc11
    have hsz := hp10.1 (by simpa using hc11)
    refine wp_skip ?_
    refine wp_seq ?_
    refine wp_region_lit ?_
    refine s_val rfl rfl (v_load rfl rfl Tryz.underlying35 rfl sz35 (cx.row 0 rfl) rfl) ?_
    refine s_fn cx (c21 _ x _ (hX.up cx.ext) (ht.up cx.ext) hs) Tryz.func21 rfl rfl rfl rfl rfl rfl ?_; intro q15 w cx hw15 hp15
    subst hp15
    refine s_val rfl rfl (v_move rfl rfl) ?_
    refine s_val rfl rfl (v_extract rfl rfl rfl) ?_
    refine s_val rfl rfl (v_extract rfl rfl rfl) ?_
    refine s_val rfl rfl (v_assign rfl rfl) ?_
    refine s_val rfl rfl (v_assign rfl rfl) ?_
    refine wpList_nil ?_
    refine wp_seq ?_
    refine wp_region_lit ?_
    refine s_val rfl rfl (v_load rfl rfl Tryz.underlying35 rfl sz35 (cx.row 0 rfl) rfl) ?_
    refine s_fn cx (c22 _ x _ (hX.up cx.ext) hs) Tryz.func22 rfl rfl rfl rfl rfl rfl ?_; intro q20 w cx hw20 hp20
    subst hp20
    refine s_val rfl rfl (v_move rfl rfl) ?_
    refine s_val rfl rfl (v_extract rfl rfl rfl) ?_
    refine s_val rfl rfl (v_extract rfl rfl rfl) ?_
    refine s_val rfl rfl (v_assign rfl rfl) ?_
    refine s_val rfl rfl (v_assign rfl rfl) ?_
    refine wpList_nil ?_
    refine wp_seq ?_
    refine wp_seq ?_
    refine wp_region_lit ?_
    refine s_val rfl rfl (v_move rfl rfl) ?_
    refine s_val rfl rfl (v_move rfl rfl) ?_
    refine s_val rfl rfl (v_strNe rfl rfl rfl) ?_
    refine s_val rfl rfl (v_move rfl rfl) ?_
    refine s_gval rfl rfl rfl (by first | exact w_ff rfl | exact w_gf rfl) (fun hc => v_move rfl (by first | exact gve hc rfl | exact gve (and_l hc) rfl | exact gve (and_l (and_l hc)) rfl | rfl)) ?_
    refine s_gval rfl rfl rfl (by first | exact w_ff rfl | exact w_gf rfl) (fun hc => v_move rfl (by first | exact gve hc rfl | exact gve (and_l hc) rfl | exact gve (and_l (and_l hc)) rfl | rfl)) ?_
    refine s_gval rfl rfl rfl (by first | exact w_ff rfl | exact w_gf rfl) (fun hc => v_cmp rfl (by first | exact gve hc rfl | exact gve (and_l hc) rfl | exact gve (and_l (and_l hc)) rfl | rfl) (by first | exact gve hc rfl | exact gve (and_l hc) rfl | exact gve (and_l (and_l hc)) rfl | rfl) rfl) ?_
    refine s_val rfl rfl (v_or rfl rfl rfl rfl) ?_
    refine wpList_nil ?_
    refine c_split rfl (fun hc30 => ?_) (fun hc30 => ?_)
    · skip
      exact absurd hc30 (by simp)
    · skip
      try simp only [Bool.and_eq_true, Bool.or_eq_true, Bool.and_eq_false_iff, Bool.or_eq_false_iff, Bool.not_eq_true', Bool.not_eq_false', decide_eq_true_eq, decide_eq_false_iff_not, beq_iff_eq, beq_eq_false_iff_ne, bne_iff_ne, bne_eq_false_iff_eq, ne_eq, Classical.not_not] at hc30
      refine wp_skip ?_
      refine wp_seq ?_
      refine wp_seq ?_
      refine wp_region_lit ?_
      refine s_val rfl rfl (v_move rfl rfl) ?_
      refine s_val rfl rfl (v_cmp rfl rfl rfl rfl) ?_
      refine wpList_nil ?_
      refine c_split rfl (fun hc32 => ?_) (fun hc32 => ?_)
      · skip
        try simp only [Bool.and_eq_true, Bool.or_eq_true, Bool.and_eq_false_iff, Bool.or_eq_false_iff, Bool.not_eq_true', Bool.not_eq_false', decide_eq_true_eq, decide_eq_false_iff_not, beq_iff_eq, beq_eq_false_iff_ne, bne_iff_ne, bne_eq_false_iff_eq, ne_eq, Classical.not_not] at hc32
        refine wp_seq ?_
        refine wp_region_lit ?_
        refine s_fnB cx (c8 _) Tryz.func8 rfl rfl rfl rfl rfl rfl ?_; intro q33 w cx hw33 hp33
        refine s_val rfl rfl (v_assign rfl rfl) ?_
        refine wpList_nil ?_
        refine wp_ret ?_
        refine ret_tmp Tryz.results5 rfl ?_
        exact ⟨cx.ext, _, rfl, hp33⟩
      · skip
        try simp only [Bool.and_eq_true, Bool.or_eq_true, Bool.and_eq_false_iff, Bool.or_eq_false_iff, Bool.not_eq_true', Bool.not_eq_false', decide_eq_true_eq, decide_eq_false_iff_not, beq_iff_eq, beq_eq_false_iff_ne, bne_iff_ne, bne_eq_false_iff_eq, ne_eq, Classical.not_not] at hc32
        have hchk : chkX x = 0 := hc32
        refine wp_skip ?_
        refine wp_seq ?_
        refine wp_region_lit ?_
        refine s_val rfl rfl (v_move rfl rfl) ?_
        refine s_fn cx (c23 x _ hchk (by omega) (by omega) hs (hcn.up cx.ext) (ht.up cx.ext)) Tryz.func23 rfl rfl rfl rfl rfl (cons_eq (congrArg (fun l => Value.string (bs l)) (txtO_0 hchk)) rfl) ?_; intro q36 w cx hw36 hp36
        obtain ⟨r, rfl, hY⟩ := hp36
        obtain ⟨ve, vc, rfl, hE, hC⟩ := id hY
        obtain ⟨d, k, _, _, rfl, _, _⟩ := hE.form
        obtain ⟨d2, k2, _, _, rfl, _, _⟩ := hC.form
        have hrow1 := cx.row 0 rfl
        have hB1 := cx.ext
        replace hX := hX.up cx.ext
        replace cx := Ctx.start w
        refine s_val rfl rfl (v_move rfl rfl) ?_
        refine s_val rfl rfl (v_extract rfl rfl rfl) ?_
        refine s_val rfl rfl (v_extract rfl rfl rfl) ?_
        refine s_alloc cx z35 rfl rfl rfl ?_; intro b7 w cx hb7 hw7
        refine s_storeAll cx 0 rfl rfl rfl rfl rfl rfl sz35 rfl rfl ?_; intro w cx hwS9
        refine s_val rfl rfl (v_assign rfl rfl) ?_
        refine wpList_nil ?_
        refine wp_seq ?_
        refine wp_region_lit ?_
        refine s_val rfl rfl (v_move rfl rfl) ?_
        refine s_val rfl rfl (v_cmp rfl rfl rfl rfl) ?_
        refine s_val rfl rfl (v_move rfl rfl) ?_
        refine s_gval rfl rfl rfl (by first | exact w_tt rfl | exact w_gt rfl) (fun hc => v_load rfl (by first | exact gve hc rfl | exact gve (and_l hc) rfl | exact gve (and_l (and_l hc)) rfl | rfl) Tryz.underlying35 rfl sz35 (hrow1.up cx.ext) rfl) ?_
        refine s_gval rfl rfl rfl (by first | exact w_tt rfl | exact w_gt rfl) (fun hc => v_load rfl (by first | exact gve hc rfl | exact gve (and_l hc) rfl | exact gve (and_l (and_l hc)) rfl | rfl) Tryz.underlying35 rfl sz35 (cx.row 0 rfl) rfl) ?_
        refine s_gfnB cx rfl rfl rfl (by first | exact w_tt rfl | exact w_gt rfl) (fun hc => c11 _ _ x _ (hX.up cx.ext) (hY.up cx.ext) hs) Tryz.func11 rfl rfl rfl (fun hc => (cons_eq (by first | exact gve hc rfl | exact gve (and_l hc) rfl | exact gve (and_l (and_l hc)) rfl | rfl) (cons_eq (by first | exact gve hc rfl | exact gve (and_l hc) rfl | exact gve (and_l (and_l hc)) rfl | rfl) rfl))) ?_; intro q44 w cx hw44 hp44
        refine s_val rfl rfl (v_and rfl rfl rfl rfl) ?_
        refine s_val rfl rfl (v_move rfl rfl) ?_
        refine s_gfnB cx rfl rfl rfl (by first | exact w_tt rfl | exact w_gt rfl) (fun hc => c8 _) Tryz.func8 rfl rfl rfl (fun hc => rfl) ?_; intro q47 w cx hw47 hp47
        refine s_val rfl rfl (v_and rfl rfl rfl rfl) ?_
        refine s_val rfl rfl (v_assign rfl rfl) ?_
        refine wpList_nil ?_
        refine wp_ret ?_
        refine ret_tmp Tryz.results5 rfl ?_
        refine ⟨hB1.trans (cx.ext.mono hB1.size), _, rfl, ?_⟩
        have h44 : q44 = true := hp44 (by simp)
        have h47 : q47 = true := hp47 (by simp [h44])
        simp [h44, h47]
end Go.Proofs.YthiafbkolhnadaaGreatDoor
end
section
namespace Go.Proofs.YthiafbkolhnadaaGreatDoor
open Go Go.Dk Go.RowKit
open Rows (uptoBulk uptoBulkAll)
set_option linter.unusedSimpArgs false
set_option linter.unusedVariables false
section
variable {H : Type}
theorem bulk_one (d : DataW H) : 1 ≤ uptoBulk d := by
  cases d with
  | lit l => cases l <;> simp [uptoBulk]
  | _ => simp [uptoBulk]
theorem bulk_part {d : DataW H} {l : List (DataW H)} (h : d ∈ l) : uptoBulk d ≤ uptoBulkAll l := by
  induction l with
  | nil => cases h
  | cons x r ih =>
    simp only [uptoBulkAll]
    cases List.mem_cons.1 h with
    | inl e => subst e; omega
    | inr e => have := ih e; omega
theorem bulk_length (l : List (DataW H)) : l.length ≤ uptoBulkAll l := by
  induction l with
  | nil => simp [uptoBulkAll]
  | cons x r ih => have := bulk_one x; simp only [uptoBulkAll, List.length_cons]; omega
theorem cells_row {w : World} {base n : Nat} {a : Addr} {cs : List Value} (h : w.cells? base a n = some cs) : cs.length = n ∧ ∀ i x, cs[i]? = some x → w.cell? (a.add i) = some x := by
  unfold World.cells? at h
  split at h
  · have hl := mapM_some_length h
    simp only [List.length_range] at hl
    refine ⟨hl, fun i x hx => ?_⟩
    have hi : i < n := by have := (List.getElem?_eq_some_iff.1 hx).1; omega
    have := mapM_some_get h i i (by simp [hi])
    rw [this]; exact hx
  · cases h
theorem add_add (a : Addr) (h : a.spot = none) (i j : Nat) : (a.add i).add j = ⟨a.block, a.off + i + j, none⟩ := by
  obtain ⟨b, o, sp⟩ := a
  simp only at h
  subst h
  rw [add_addr, add_addr]
variable {enc : TypeId × Value → H} {w : World} {base : Nat} {spare : Nat → Bool} {held : Bool}
theorem rd_slice {t e k n : Nat} {cs : List Value} {x : DataW H × List MemPlace} (ht : Tryz.prog.underlying t = some (.slice e)) (hk : Tryz.prog.cellsOf e = k) (hk0 : 0 < k) (h : DataW.trod enc Tryz.prog w base spare held (n + 1) t cs = some x) :
    ∃ s len b o, cs = [s] ∧ SliceAt (fun b => b < w.heap.size) s len b o ∧ len + 1 ≤ uptoBulk x.1 + 1 ∧
      ∀ i, i < len → ∃ r y, r.length = k ∧ RowAt w b (o + i * k) r ∧ DataW.trod enc Tryz.prog w base spare held n e r = some y ∧ uptoBulk y.1 + 1 ≤ uptoBulk x.1 := by
  rcases DataW.trod_slice ht h with ⟨rfl, rfl⟩ | ⟨a, len, cap, elems, rest, n', hn, rfl, rfl, hb, hl, hm, hlen, hel, _, _⟩
  · exact ⟨_, 0, 0, 0, rfl, .inl ⟨rfl, rfl⟩, by omega, fun i hi => by omega⟩
  · obtain rfl : n = n' := by omega
    have hb1 : uptoBulkAll (elems.map (·.1)) + 1 ≤ uptoBulk (DataW.slice (elems.map (·.1)) (rest.map (·.1))) := by simp only [uptoBulk]; omega
    have hb2 := bulk_length (elems.map (·.1))
    simp only [List.length_map] at hb2
    have key : ∀ i, i < len → ∃ r y, r.length = k ∧ (∀ j x, r[j]? = some x → w.cell? ((a.add (i * k)).add j) = some x) ∧ DataW.trod enc Tryz.prog w base spare held n e r = some y ∧ y ∈ elems := by
      intro i hi
      have h1 := hel i hi
      rw [hk] at h1
      have hi' : i < elems.length := by omega
      rw [List.getElem?_eq_getElem hi'] at h1
      cases hc : w.cells? base (a.add (i * k)) k with
      | none => rw [hc] at h1; cases h1
      | some r =>
        rw [hc] at h1
        obtain ⟨h2, h3⟩ := cells_row hc
        exact ⟨r, elems[i], h2, h3, h1, List.getElem_mem _⟩
    have hspot : 0 < len → a.spot = none := by
      intro h0
      obtain ⟨r, y, h1, h2, _⟩ := key 0 h0
      have hr : r[0]? = some r[0] := List.getElem?_eq_getElem (by omega)
      have := World.cell?_spot (h2 0 _ hr)
      simpa [Addr.add] using this
    have hblk : 0 < len → a.block < w.heap.size := by
      intro h0
      obtain ⟨r, y, h1, h2, _⟩ := key 0 h0
      have hr : r[0]? = some r[0] := List.getElem?_eq_getElem (by omega)
      have := block_lt_of_cell (h2 0 _ hr)
      simpa [Addr.add] using this
    refine ⟨_, len, a.block, a.off, rfl, .inr ⟨a, cap, rfl, hl, fun h0 => ⟨?_, hblk h0⟩⟩, by dsimp only; omega, ?_⟩
    · have := hspot h0
      obtain ⟨b, o, sp⟩ := a
      simp only at this
      subst this
      rfl
    · intro i hi
      obtain ⟨r, y, h1, h2, h3, h4⟩ := key i hi
      refine ⟨r, y, h1, fun j x hj => ?_, h3, ?_⟩
      · have := h2 j x hj
        rwa [add_add a (hspot (by omega))] at this
      · have := bulk_part (List.mem_map.2 ⟨y, h4, rfl⟩ : y.1 ∈ elems.map (·.1))
        dsimp only
        omega
theorem cellsOf_of {t k : Nat} (h : (Tryz.prog.info? t).map (·.size) = some k) : Tryz.prog.cellsOf t = k := by unfold Program.cellsOf; rw [h]; rfl
theorem rd_struct {t k n : Nat} {fs : Array Field} {cs : List Value} {x : DataW H × List MemPlace} (ht : Tryz.prog.underlying t = some (.struct fs)) (hk : Tryz.prog.cellsOf t = k) (h : DataW.trod enc Tryz.prog w base spare held (n + 1) t cs = some x) :
    cs.length = k ∧ ∀ (i ty off m : Nat), (fs[i]?.map fun f => (f.type, f.offset)) = some (ty, off) → Tryz.prog.cellsOf ty = m → ∃ y, DataW.trod enc Tryz.prog w base spare held n ty ((cs.drop off).take m) = some y ∧ uptoBulk y.1 + 1 ≤ uptoBulk x.1 := by
  obtain ⟨xs, n', hn, rfl, hl, hlen, hf⟩ := DataW.trod_struct ht h
  obtain rfl : n = n' := by omega
  refine ⟨hl.trans hk, fun i ty off m hfi hm => ?_⟩
  cases hfi' : fs[i]? with
  | none => rw [hfi'] at hfi; cases hfi
  | some f =>
  rw [hfi'] at hfi
  simp only [Option.map_some, Option.some.injEq, Prod.mk.injEq] at hfi
  obtain ⟨rfl, rfl⟩ := hfi
  subst hm
  have hi : i < xs.length := by rw [hlen]; exact (Array.getElem?_eq_some_iff.1 hfi').1
  have h1 := hf i f hfi'
  rw [List.getElem?_eq_getElem hi] at h1
  refine ⟨xs[i], h1, ?_⟩
  have := bulk_part (List.mem_map.2 ⟨xs[i], List.getElem_mem _, rfl⟩ : xs[i].1 ∈ xs.map (·.1))
  simp only [uptoBulk]
  omega
theorem rd_int {t n : Nat} {k : IntKind} {cs : List Value} {x : DataW H × List MemPlace} (ht : Tryz.prog.underlying t = some (.int k)) (h : DataW.trod enc Tryz.prog w base spare held n t cs = some x) : ∃ m, cs = [.int k m] := by
  obtain ⟨m, h1, _⟩ := DataW.trod_int ht h; exact ⟨m, h1⟩
theorem rd_bool {t n : Nat} {cs : List Value} {x : DataW H × List MemPlace} (ht : Tryz.prog.underlying t = some .bool) (h : DataW.trod enc Tryz.prog w base spare held n t cs = some x) : ∃ m, cs = [.bool m] := by
  obtain ⟨m, h1, _⟩ := DataW.trod_bool ht h; exact ⟨m, h1⟩
theorem rd_string {t n : Nat} {cs : List Value} {x : DataW H × List MemPlace} (ht : Tryz.prog.underlying t = some .string) (h : DataW.trod enc Tryz.prog w base spare held n t cs = some x) : ∃ s : ByteArray, cs = [.string s] ∧ s.size + 1 ≤ uptoBulk x.1 := by
  obtain ⟨s, h1, rfl, _⟩ := DataW.trod_string ht h
  refine ⟨s, h1, ?_⟩
  simp only [uptoBulk, Array.length_toList]
  exact Nat.le_refl _
theorem list_of {α : Type} {p : Nat → α → Prop} (n : Nat) (h : ∀ i, i < n → ∃ a, p i a) : ∃ l : List α, l.length = n ∧ ∀ i a, l[i]? = some a → p i a := by
  induction n with
  | zero => exact ⟨[], rfl, fun i a ha => by simp at ha⟩
  | succ n ih =>
    obtain ⟨l, hl, hp⟩ := ih fun i hi => h i (by omega)
    obtain ⟨a, ha⟩ := h n (by omega)
    refine ⟨l ++ [a], by simp [hl], fun i b hb => ?_⟩
    rcases Nat.lt_or_ge i n with hi | hi
    · rw [List.getElem?_append_left (by omega)] at hb; exact hp i b hb
    · rw [List.getElem?_append_right (by omega)] at hb
      have : i = n := by
        rcases Nat.eq_zero_or_pos (i - l.length) with h0 | h0
        · omega
        · rw [List.getElem?_eq_none (by simp; omega)] at hb; cases hb
      subst this
      rw [hl, Nat.sub_self] at hb
      simp at hb
      subst hb
      exact ha
theorem list2 {l : List Value} (h : l.length = 2) : ∃ c0 c1, l = [c0, c1] := by
  match l, h with
  | [c0, c1], _ => exact ⟨_, _, rfl⟩
theorem list3 {l : List Value} (h : l.length = 3) : ∃ c0 c1 c2, l = [c0, c1, c2] := by
  match l, h with
  | [c0, c1, c2], _ => exact ⟨_, _, _, rfl⟩
theorem list5 {l : List Value} (h : l.length = 5) : ∃ c0 c1 c2 c3 c4, l = [c0, c1, c2, c3, c4] := by
  match l, h with
  | [c0, c1, c2, c3, c4], _ => exact ⟨_, _, _, _, _, rfl⟩
theorem rdStep {n : Nat} {cs : List Value} {x : DataW H × List MemPlace} (h : DataW.trod enc Tryz.prog w base spare held n 107 cs = some x) : ∃ s : Stp, cs = srow s := by
  cases n with
  | zero => simp [DataW.trod] at h
  | succ n =>
  obtain ⟨hl, hf⟩ := rd_struct Tryz.underlying107 (cellsOf_of sz107) h
  obtain ⟨c0, c1, c2, rfl⟩ := list3 hl
  obtain ⟨y0, t0, _⟩ := hf 0 4 0 1 rfl (cellsOf_of sz4)
  obtain ⟨y1, t1, _⟩ := hf 1 9 1 1 rfl (cellsOf_of sz9)
  obtain ⟨y2, t2, _⟩ := hf 2 3 2 1 rfl (cellsOf_of sz3)
  simp only [List.drop_succ_cons, List.drop_zero, List.take_succ_cons, List.take_zero] at t0 t1 t2
  obtain ⟨b, e0⟩ := rd_bool Tryz.underlying4 t0
  obtain ⟨s, e1, _⟩ := rd_string Tryz.underlying9 t1
  obtain ⟨k, e2⟩ := rd_int Tryz.underlying3 t2
  simp only [List.cons.injEq, and_true] at e0 e1 e2
  subst e0 e1 e2
  exact ⟨⟨b, s, k⟩, rfl⟩
theorem rdPath {n : Nat} {cs : List Value} {x : DataW H × List MemPlace} (h : DataW.trod enc Tryz.prog w base spare held n 28 cs = some x) : ∃ s l, cs = [s] ∧ Pth w s l ∧ l.length ≤ uptoBulk x.1 := by
  cases n with
  | zero => simp [DataW.trod] at h
  | succ n =>
  obtain ⟨s, len, b, o, rfl, hs, hb, hel⟩ := rd_slice Tryz.underlying28 (cellsOf_of sz107) (by omega) h
  obtain ⟨l, hl, hp⟩ := list_of (p := fun i (u : Stp) => RowAt w b (o + i * 3) (srow u)) len fun i hi => by
    obtain ⟨r, y, hr, h1, h2, _⟩ := hel i hi
    obtain ⟨u, rfl⟩ := rdStep h2
    exact ⟨u, h1⟩
  subst hl
  exact ⟨s, l, rfl, ⟨b, o, hs, hp⟩, by omega⟩
theorem rdStrs {n : Nat} {cs : List Value} {x : DataW H × List MemPlace} (h : DataW.trod enc Tryz.prog w base spare held n 33 cs = some x) : ∃ s l, cs = [s] ∧ Cls w s l ∧ l.length ≤ uptoBulk x.1 ∧ ∀ c ∈ l, c.size ≤ uptoBulk x.1 := by
  cases n with
  | zero => simp [DataW.trod] at h
  | succ n =>
  obtain ⟨s, len, b, o, rfl, hs, hb, hel⟩ := rd_slice Tryz.underlying33 (cellsOf_of sz9) (by omega) h
  obtain ⟨l, hl, hp⟩ := list_of (p := fun i (u : ByteArray) => RowAt w b (o + i * 1) [.string u] ∧ u.size ≤ uptoBulk x.1) len fun i hi => by
    obtain ⟨r, y, hr, h1, h2, h3⟩ := hel i hi
    obtain ⟨u, rfl, hu⟩ := rd_string Tryz.underlying9 h2
    exact ⟨u, h1, by omega⟩
  subst hl
  refine ⟨s, l, rfl, ⟨b, o, hs, fun i u hu => (hp i u hu).1⟩, by omega, fun c hc => ?_⟩
  obtain ⟨i, hi⟩ := List.getElem?_of_mem hc
  exact (hp i c hi).2
theorem rdEnt {n : Nat} {cs : List Value} {x : DataW H × List MemPlace} (h : DataW.trod enc Tryz.prog w base spare held n 52 cs = some x) : ∃ (p : Value) (e : Ent), cs = [p, .int .i64 e.fr, .int .i64 e.to] ∧ Pth w p e.path ∧ e.path.length ≤ uptoBulk x.1 := by
  cases n with
  | zero => simp [DataW.trod] at h
  | succ n =>
  obtain ⟨hl, hf⟩ := rd_struct Tryz.underlying52 (cellsOf_of sz52) h
  obtain ⟨c0, c1, c2, rfl⟩ := list3 hl
  obtain ⟨y0, t0, u0⟩ := hf 0 28 0 1 rfl (cellsOf_of sz28)
  obtain ⟨y1, t1, _⟩ := hf 1 48 1 2 rfl (cellsOf_of sz48)
  simp only [List.drop_succ_cons, List.drop_zero, List.take_succ_cons, List.take_zero] at t0 t1
  obtain ⟨p, l, e0, hp, hpl⟩ := rdPath t0
  cases n with
  | zero => simp [DataW.trod] at t1
  | succ n =>
  obtain ⟨_, hg⟩ := rd_struct Tryz.underlying48 (cellsOf_of sz48) t1
  obtain ⟨z0, q0, _⟩ := hg 0 3 0 1 rfl (cellsOf_of sz3)
  obtain ⟨z1, q1, _⟩ := hg 1 3 1 1 rfl (cellsOf_of sz3)
  simp only [List.drop_succ_cons, List.drop_zero, List.take_succ_cons, List.take_zero] at q0 q1
  obtain ⟨f, e1⟩ := rd_int Tryz.underlying3 q0
  obtain ⟨t, e2⟩ := rd_int Tryz.underlying3 q1
  simp only [List.cons.injEq, and_true] at e0 e1 e2
  subst e0 e1 e2
  exact ⟨_, ⟨l, f, t⟩, rfl, hp, by show l.length ≤ _; omega⟩
theorem agg5 {x a b c d e : Value} (h : x.cells.toList = [a, b, c, d, e]) : x = .agg ([a, b, c, d, e] : List Value).toArray := by
  cases x <;> simp [Value.cells] at h
  rename_i cs
  rw [← h]
theorem rdIdx {n : Nat} {cs : List Value} {x : DataW H × List MemPlace} (h : DataW.trod enc Tryz.prog w base spare held n 35 cs = some x) (hb : uptoBulk x.1 ≤ 1048576) : ∃ u : Idx, IdxV w u cs ∧ Szd u := by
  cases n with
  | zero => simp [DataW.trod] at h
  | succ n =>
  obtain ⟨hl, hf⟩ := rd_struct Tryz.underlying35 (cellsOf_of sz35) h
  obtain ⟨c0, c1, c2, c3, c4, rfl⟩ := list5 hl
  obtain ⟨y0, t0, _⟩ := hf 0 3 0 1 rfl (cellsOf_of sz3)
  obtain ⟨y1, t1, _⟩ := hf 1 3 1 1 rfl (cellsOf_of sz3)
  obtain ⟨y2, t2, _⟩ := hf 2 3 2 1 rfl (cellsOf_of sz3)
  obtain ⟨y3, t3, u3⟩ := hf 3 32 3 1 rfl (cellsOf_of sz32)
  obtain ⟨y4, t4, u4⟩ := hf 4 33 4 1 rfl (cellsOf_of sz33)
  simp only [List.drop_succ_cons, List.drop_zero, List.take_succ_cons, List.take_zero] at t0 t1 t2 t3 t4
  obtain ⟨a, e0⟩ := rd_int Tryz.underlying3 t0
  obtain ⟨b, e1⟩ := rd_int Tryz.underlying3 t1
  obtain ⟨c, e2⟩ := rd_int Tryz.underlying3 t2
  obtain ⟨sc, lc, e4, hc, hcl, hcs⟩ := rdStrs t4
  cases n with
  | zero => simp [DataW.trod] at t3
  | succ n =>
  obtain ⟨se, len, bb, oo, e3, hs, hbl, hel⟩ := rd_slice Tryz.underlying32 (cellsOf_of sz52) (by omega) t3
  obtain ⟨l, hl2, hp⟩ := list_of (p := fun i (u : Ent) => ∃ p, RowAt w bb (oo + i * 3) [p, .int .i64 u.fr, .int .i64 u.to] ∧ Pth w p u.path ∧ u.path.length ≤ 1048576) len fun i hi => by
    obtain ⟨r, y, hr, h1, h2, h3⟩ := hel i hi
    obtain ⟨p, e, rfl, h4, h5⟩ := rdEnt h2
    exact ⟨e, p, h1, h4, by omega⟩
  simp only [List.cons.injEq, and_true] at e0 e1 e2 e3 e4
  subst e0 e1 e2 e3 e4 hl2
  refine ⟨⟨a, b, c, l, lc⟩, ⟨_, _, rfl, ⟨bb, oo, hs, fun i e he => ?_⟩, hc⟩, ⟨by show l.length ≤ _; omega, by show lc.length ≤ _; omega, fun s hs => by have := hcs s hs; omega, fun e he => ?_⟩⟩
  · obtain ⟨p, h1, h2, _⟩ := hp i e he
    exact ⟨p, h1, h2⟩
  · obtain ⟨i, hi⟩ := List.getElem?_of_mem he
    obtain ⟨p, _, _, h3⟩ := hp i e hi
    exact h3
end
end Go.Proofs.YthiafbkolhnadaaGreatDoor
end
section
set_option linter.unusedVariables false
namespace Go.Proofs.YthiafbkolhnadaaGreatDoor
open Go Go.Dk Go.RowKit Go.Lib
set_option maxRecDepth 100000
theorem tab_reads {P : Program} {W : World} {name : String} {k : IntKind} {zs : List Int} {g : Nat} {t e : TypeId} {n : Nat}
    (hg : P.globalNamed name = some g) (hty : (P.globals[g]?).map (·.type) = some t) (ht : P.underlying t = some (.array n e)) (he : P.underlying e = some (.int k)) (hce : P.cellsOf e = 1) (hct : P.cellsOf t = n)
    (h : VarReads P W name (tabData k zs)) : TabIs P W name k zs := by
  obtain ⟨g', t', cs, fuel, p, hg', ht', hvar, hd⟩ := h
  obtain rfl := Option.some.inj (hg.symm.trans hg')
  obtain rfl := Option.some.inj (hty.symm.trans ht')
  unfold TabIs
  rw [hvar, ← cells_of_tab ht he hce hct hd]
theorem pow_eq : (Rows.laid_internal_strconv_uint64pow10 : DataW Unit) = tabData .u64 pow10Tab := by kernel_rfl
theorem bit_eq : (Rows.laid_math_bits_deBruijn64tab : DataW Unit) = tabData .u8 (deBruijn64tab.map fun n : Nat => (n : Int)) := by kernel_rfl
theorem first_eq : (Rows.laid_unicode_utf8_first : DataW Unit) = firstData := by kernel_rfl
theorem acc_eq : (Rows.laid_unicode_utf8_acceptRanges : DataW Unit) = acceptData := by kernel_rfl
theorem ce5 : Tryz.prog.cellsOf 5 = 1 := by kernel_rfl
theorem tabs_of {W : World} (h2 : VarReads Tryz.prog W "math/bits.deBruijn64tab" Rows.laid_math_bits_deBruijn64tab) (h3 : VarReads Tryz.prog W "internal/strconv.uint64pow10" Rows.laid_internal_strconv_uint64pow10)
    (h4 : VarReads Tryz.prog W "unicode/utf8.acceptRanges" Rows.laid_unicode_utf8_acceptRanges) (h5 : VarReads Tryz.prog W "unicode/utf8.first" Rows.laid_unicode_utf8_first) : Tabs W := by
  rw [pow_eq] at h3
  rw [bit_eq] at h2
  rw [first_eq] at h5
  rw [acc_eq] at h4
  have g5 : Tryz.prog.globalNamed "unicode/utf8.first" = some 0 := by kernel_rfl
  have g4 : Tryz.prog.globalNamed "unicode/utf8.acceptRanges" = some 1 := by kernel_rfl
  have g2 : Tryz.prog.globalNamed "math/bits.deBruijn64tab" = some 7 := by kernel_rfl
  have e2 := tab_reads g2 (t := 406) (by kernel_rfl) Tryz.underlying406 Tryz.underlying5 ce5 (by kernel_rfl) h2
  have e5 := tab_reads g5 (t := 233) (by kernel_rfl) Tryz.underlying233 Tryz.underlying5 ce5 (by kernel_rfl) h5
  refine ⟨tab_reads (g := 2) (t := 358) (by kernel_rfl) (by kernel_rfl) Tryz.underlying358 Tryz.underlying299 (by kernel_rfl) (by kernel_rfl) h3, fun j hj => ?_, fun c hc => ?_, fun i hi => ?_⟩
  · have h := e2.cell g2 j (by rw [List.length_map]; exact hj)
    rw [h]
    congr 2
    have hj' : j < deBruijn64tab.length := hj
    simp [List.getD, List.getElem?_map, List.getElem?_eq_getElem hj']
  · have hc' : c < firstTab.length := by unfold firstTab; simpa using hc
    have h := e5.cell g5 c hc'
    rw [h]
    congr 2
    unfold firstTab
    simp [List.getD, hc]
  · obtain ⟨g, t, cs, fuel, p, hg, hty, hvar, hd⟩ := h4
    obtain rfl := Option.some.inj (g4.symm.trans hg)
    obtain rfl : 236 = t := Option.some.inj ((show (Tryz.prog.globals[1]?).map (·.type) = some 236 by kernel_rfl).symm.trans hty)
    obtain ⟨fuel', d, q, hdi, he⟩ := array_elem Tryz.underlying236 hd i hi
    simp only [List.getElem?_map, List.getElem?_range hi, Option.map_some, Option.some.injEq] at hdi
    subst hdi
    have c235 : Tryz.prog.cellsOf 235 = 2 := by kernel_rfl
    rw [c235] at he
    have hcs := ints_of_struct Tryz.underlying235 (fun j f hj => by
      match j, hj with
      | 0, hj => simp at hj; subst hj; exact ⟨Tryz.underlying5, rfl, ce5⟩
      | 1, hj => simp at hj; subst hj; exact ⟨Tryz.underlying5, rfl, ce5⟩
      | j + 2, hj => simp at hj) (by rw [c235]; rfl) he
    have e0 := congrArg (·[0]?) hcs
    have e1 := congrArg (·[1]?) hcs
    simp only [List.getElem?_take, List.getElem?_drop] at e0 e1
    constructor
    · rw [World.var?_cell hg hvar (2 * i), ← Array.getElem?_toList]
      simpa [Nat.mul_comm] using e0
    · rw [World.var?_cell hg hvar (2 * i + 1), ← Array.getElem?_toList]
      simpa [Nat.mul_comm] using e1
end Go.Proofs.YthiafbkolhnadaaGreatDoor
end
section
namespace Go.Proofs.YthiafbkolhnadaaGreatDoor.indexTexts
open Go Go.Dk Go.ChangeShapes Go.WideShapes Go.ChangeAt Go.RowKit
set_option linter.unusedVariables false
theorem own : ownKnob Tryz.prog.godebug = none := by kernel_rfl
theorem laidOut : laidOutB Tryz.prog = true := by kernel_rfl
theorem laid_met (os : Os) : laidMet Tryz.prog Rows.indexTextsUptoRow.laid ((World.laidAll Tryz.prog os Rows.indexTextsUptoRow.laid).forCall (fun _ _ => 0) ⟨#[], #[.agg #[.int .i64 0, .int .i64 0, .int .i64 0, .slice none 0 0, .slice none 0 0]], []⟩).memory :=
  laidMet_laidAll _ (by kernel_rfl) (by kernel_rfl)
theorem reads (os : Os) {H : Type} (enc : TypeId × Value → H) : ∃ places, DataW.whole enc Tryz.prog ((World.laidAll Tryz.prog os Rows.indexTextsUptoRow.laid).forCall (fun _ _ => 0) ⟨#[], #[.agg #[.int .i64 0, .int .i64 0, .int .i64 0, .slice none 0 0, .slice none 0 0]], []⟩).memory Tryz.f5.params.toList Rows.indexTextsSpec.vars false (#[.agg #[.int .i64 0, .int .i64 0, .int .i64 0, .slice none 0 0, .slice none 0 0]] : Array Value).toList 8 = some ([.agg [.lit (.int .i64 0), .lit (.int .i64 0), .lit (.int .i64 0), .nil, .nil]], [], places) :=
  ⟨[], by kernel_rfl⟩
theorem tabs {W : World} (h : laidMetH Tryz.prog Rows.indexTextsUptoRow.laid W) : Tabs W := by
  rw [MakeChecks.laidMetH_plain _ _ _ (by kernel_rfl)] at h
  exact tabs_of (Go.Lib.laidMet.reads h (List.mem_cons_of_mem _ (List.mem_cons_self ..))) (Go.Lib.laidMet.reads h (List.mem_cons_of_mem _ (List.mem_cons_of_mem _ (List.mem_cons_self ..)))) (Go.Lib.laidMet.reads h (List.mem_cons_of_mem _ (List.mem_cons_of_mem _ (List.mem_cons_of_mem _ (List.mem_cons_self ..))))) (Go.Lib.laidMet.reads h (List.mem_cons_of_mem _ (List.mem_cons_of_mem _ (List.mem_cons_of_mem _ (List.mem_cons_of_mem _ (List.mem_cons_of_mem _ (List.mem_cons_of_mem _ (List.mem_cons_self ..))))))))
set_option maxRecDepth 100000 in
theorem lifted (os : Os) (started : os.Started) (H : Type) (enc : TypeId × Value → H) (F : Stop.Interp) :
    ReturnsInHanded {} Tryz.checked os 5 .any ((Rows.OpenSpec.upto Rows.indexTextsSpec).preRow enc Tryz.prog Tryz.f5 Rows.indexTextsUptoRow.domain false Rows.indexTextsUptoRow.laid) (((Rows.OpenSpec.upto Rows.indexTextsSpec).at F).post enc Tryz.prog Tryz.f5 false true false false) := by
  obtain ⟨places, hx⟩ := reads os enc
  refine returnsInHanded_of_row (C := Tryz.checked) (s := Rows.OpenSpec.upto Rows.indexTextsSpec) own started (by kernel_rfl) Tryz.func5
    (witness_row_at (enc := enc) (C := Tryz.checked) false (World.laidAll Tryz.prog os Rows.indexTextsUptoRow.laid) #[.agg #[.int .i64 0, .int .i64 0, .int .i64 0, .slice none 0 0, .slice none 0 0]] (World.laidAll_os _ _ _) (by kernel_rfl) (by kernel_rfl) (by kernel_rfl)
      (OpenSpec.preRow_of_cond 8 hx (by kernel_rfl) (fun k hk => by cases hk; kernel_rfl) (by kernel_rfl) (laid_met os))) ?_
  intro W base args ds gs before hval hW _ hcond _ hL hsh _
  have hk := hcond _ rfl
  have ht := tabs hL
  have hcn : Cnt W := Go.Proofs.cell_of_shapedOpen_int (P := Tryz.prog) (g := 3) (t := 3) (zero := #[.int .i64 0]) hsh (of_decide_eq_true (by kernel_rfl)) (by kernel_rfl) rfl (by kernel_rfl) (by kernel_rfl) Tryz.underlying3
  have hW' := hW
  obtain ⟨p, q, hA0, hV, rfl, hfz, hnd⟩ := hW
  have hA : DataW.TrodAll enc Tryz.prog W 0 (fun _ => true) true Tryz.f5.params.toList args.toList ds p := hA0
  rw [Tryz.params5] at hA hval
  obtain ⟨v0, vs0, d0, ds0, p0, q0, hargs, rfl, rfl, h0, r0⟩ := trodAll_cons hA
  obtain ⟨rfl, rfl, rfl⟩ := trodAll_nil r0
  obtain rfl : args = #[v0] := by cases args; simp_all
  obtain ⟨rfl, rfl⟩ := trodVars_none hV
  have k0 := h0
  have lt0 : ∀ x ∈ p0, x.block < W.heap.size := by obtain ⟨m, hm⟩ := k0; exact DataW.trod_lt m _ _ _ hm
  obtain ⟨m0, t0⟩ := h0
  have hbulk : Rows.uptoBulk d0 ≤ 1048576 := by
    have := of_decide_eq_true hk
    simp only [List.append_nil, Rows.uptoBulkAll] at this
    omega
  obtain ⟨x0, hX0, hS0⟩ := rdIdx t0 (by show Rows.uptoBulk d0 ≤ 1048576; omega)
  have hX0c := hX0
  obtain ⟨ve, vc, hXe, hE0, hC0⟩ := hX0c
  obtain ⟨a0, c0, b0, o0, rfl, _, _⟩ := hE0.form
  obtain ⟨a02, c02, b02, o02, rfl, _, _⟩ := hC0.form
  obtain rfl : v0 = .agg ([.int .i64 x0.fmt, .int .i64 x0.size, .int .i64 x0.depth, .slice a0 x0.ents.length c0, .slice a02 x0.cols.length c02] : List Value).toArray := agg5 hXe
  replace hX0 : IdxV W x0 [.int .i64 x0.fmt, .int .i64 x0.size, .int .i64 x0.depth, .slice a0 x0.ents.length c0, .slice a02 x0.cols.length c02] := ⟨_, _, rfl, hE0, hC0⟩
  clear hA0
  refine Calls.mono (lawT x0 a0 a02 c0 c02 W hX0 ht hcn hS0) fun e W' ⟨r, he, bel, b, hr, hb⟩ => ?_
  subst hr hb he
  exact ⟨_, rfl, _, _, _, [], _, [], hW', trodAll_mk1 (shut_bool Tryz.underlying4 _), (trodAll_cons_mk (Below.trod laidOut (by kernel_rfl) (of_decide_eq_true (by kernel_rfl)) k0 bel lt0) trodAll_mk0), rfl, bel.frame _, fun h => by cases h⟩
end Go.Proofs.YthiafbkolhnadaaGreatDoor.indexTexts
end
