/-
  Several texts in one: Gc, Rp, ShN, Rr, Bh, Bs, Bu, Pn, Pq, Pv, Pf
-/
import Derived.Test.YthiafbkolhnadaaGreatDoorTC
import Derived.Shelf.Strings.BuilderK
import Derived.Shelf.Small.Wraps
import Derived.Shelf.Strconv.Atoi
import Derived.Shelf.Strings.Cut
import Derived.Shelf.Strings.Split
import Derived.Test.YthiafbkolhnadaaGreatDoorProg
import Derived.Lib.ConvBytes
import Derived.Lib.FrozenHead
section
set_option linter.unusedSimpArgs false
set_option linter.unusedVariables false
namespace Go.Proofs.YthiafbkolhnadaaGreatDoor
open Go Go.Dk Go.RowKit Go.Lib
attribute [local irreducible] Go.wpList Go.Code.wp Go.bodyPost Go.wpStill
set_option maxRecDepth 10000 in
theorem c193 (r : Nat) (w0 : World) : Fc Tryz.prog 193 [.int .i64 r] w0 (IsI fun m => m = wdN r) := by
  refine ret_enter Tryz.func193 rfl Tryz.ntmps193 rfl ?_
  have cx := Ctx.start w0
  refine wp_seq ?_
  refine wp_region_lit ?_
  refine s_val rfl rfl (v_assign rfl rfl) ?_
  refine wpList_nil ?_
  refine wp_seq ?_
  refine wp_block ?_
  refine wp_seq ?_
  refine wp_region_lit ?_
  refine s_val rfl rfl (v_move rfl rfl) ?_
  refine s_val rfl rfl (v_cmp rfl rfl rfl rfl) ?_
  refine s_val rfl rfl (v_assign rfl rfl) ?_
  refine wpList_nil ?_
  refine c_split rfl (fun hc3 => ?_) (fun hc3 => ?_)
  · skip
    try simp only [Bool.and_eq_true, Bool.or_eq_true, Bool.and_eq_false_iff, Bool.or_eq_false_iff, Bool.not_eq_true', Bool.not_eq_false', decide_eq_true_eq, decide_eq_false_iff_not, beq_iff_eq, beq_eq_false_iff_ne, bne_iff_ne, bne_eq_false_iff_eq, ne_eq, Classical.not_not] at hc3
    refine wp_seq ?_
    refine wp_region_lit ?_
    refine s_val rfl rfl (v_assign rfl rfl) ?_
    refine wpList_nil ?_
    refine wp_ret ?_
    refine ret_tmp Tryz.results193 rfl ?_
    refine ⟨cx.ext, _, rfl, ?_⟩
    show (_ : Int) = _
    unfold wdN
    rw [if_pos (by omega)]
    rfl
  · skip
    try simp only [Bool.and_eq_true, Bool.or_eq_true, Bool.and_eq_false_iff, Bool.or_eq_false_iff, Bool.not_eq_true', Bool.not_eq_false', decide_eq_true_eq, decide_eq_false_iff_not, beq_iff_eq, beq_eq_false_iff_ne, bne_iff_ne, bne_eq_false_iff_eq, ne_eq, Classical.not_not] at hc3
    refine wp_seq ?_
    refine wp_region_lit ?_
    refine s_val rfl rfl (v_move rfl rfl) ?_
    refine s_val rfl rfl (v_cmp rfl rfl rfl rfl) ?_
    refine s_val rfl rfl (v_assign rfl rfl) ?_
    refine wpList_nil ?_
    refine c_split rfl (fun hc6 => ?_) (fun hc6 => ?_)
    · skip
      try simp only [Bool.and_eq_true, Bool.or_eq_true, Bool.and_eq_false_iff, Bool.or_eq_false_iff, Bool.not_eq_true', Bool.not_eq_false', decide_eq_true_eq, decide_eq_false_iff_not, beq_iff_eq, beq_eq_false_iff_ne, bne_iff_ne, bne_eq_false_iff_eq, ne_eq, Classical.not_not] at hc6
      refine wp_seq ?_
      refine wp_region_lit ?_
      refine s_val rfl rfl (v_assign rfl rfl) ?_
      refine wpList_nil ?_
      refine wp_ret ?_
      refine ret_tmp Tryz.results193 rfl ?_
      refine ⟨cx.ext, _, rfl, ?_⟩
      show (_ : Int) = _
      unfold wdN
      rw [if_neg (by omega)]
      rw [if_pos (by omega)]
      rfl
    · skip
      try simp only [Bool.and_eq_true, Bool.or_eq_true, Bool.and_eq_false_iff, Bool.or_eq_false_iff, Bool.not_eq_true', Bool.not_eq_false', decide_eq_true_eq, decide_eq_false_iff_not, beq_iff_eq, beq_eq_false_iff_ne, bne_iff_ne, bne_eq_false_iff_eq, ne_eq, Classical.not_not] at hc6
      refine wp_seq ?_
      refine wp_region_lit ?_
      refine s_val rfl rfl (v_move rfl rfl) ?_
      refine s_val rfl rfl (v_cmp rfl rfl rfl rfl) ?_
      refine s_val rfl rfl (v_assign rfl rfl) ?_
      refine wpList_nil ?_
      refine c_split rfl (fun hc9 => ?_) (fun hc9 => ?_)
      · skip
        try simp only [Bool.and_eq_true, Bool.or_eq_true, Bool.and_eq_false_iff, Bool.or_eq_false_iff, Bool.not_eq_true', Bool.not_eq_false', decide_eq_true_eq, decide_eq_false_iff_not, beq_iff_eq, beq_eq_false_iff_ne, bne_iff_ne, bne_eq_false_iff_eq, ne_eq, Classical.not_not] at hc9
        refine wp_seq ?_
        refine wp_region_lit ?_
        refine s_val rfl rfl (v_assign rfl rfl) ?_
        refine wpList_nil ?_
        refine wp_ret ?_
        refine ret_tmp Tryz.results193 rfl ?_
        refine ⟨cx.ext, _, rfl, ?_⟩
        show (_ : Int) = _
        unfold wdN
        rw [if_neg (by omega)]
        rw [if_neg (by omega)]
        rw [if_pos (by omega)]
        rfl
      · skip
        try simp only [Bool.and_eq_true, Bool.or_eq_true, Bool.and_eq_false_iff, Bool.or_eq_false_iff, Bool.not_eq_true', Bool.not_eq_false', decide_eq_true_eq, decide_eq_false_iff_not, beq_iff_eq, beq_eq_false_iff_ne, bne_iff_ne, bne_eq_false_iff_eq, ne_eq, Classical.not_not] at hc9
        refine wp_skip ?_
        refine wp_seq ?_
        refine wp_region_lit ?_
        refine s_val rfl rfl (v_assign rfl rfl) ?_
        refine wpList_nil ?_
        refine wp_ret ?_
        refine ret_tmp Tryz.results193 rfl ?_
        refine ⟨cx.ext, _, rfl, ?_⟩
        show (_ : Int) = _
        unfold wdN
        rw [if_neg (by omega)]
        rw [if_neg (by omega)]
        rw [if_neg (by omega)]
        rfl
set_option maxRecDepth 10000 in
theorem c191 (b : Nat) (w0 : World) (hb : b < 256) : Fc Tryz.prog 191 [.int .u8 b] w0 (fun v _ => v = .tuple #[.int .i64 (hdU b).1, .int .i64 (hdU b).2]) := by
  refine ret_enter Tryz.func191 rfl Tryz.ntmps191 rfl ?_
  have cx := Ctx.start w0
  refine wp_seq ?_
  refine wp_region_lit ?_
  refine s_val rfl rfl (v_assign rfl rfl) ?_
  refine s_val rfl rfl (v_assign rfl rfl) ?_
  refine wpList_nil ?_
  refine wp_seq ?_
  refine wp_block ?_
  refine wp_seq ?_
  refine wp_region_lit ?_
  refine s_val rfl rfl (v_move rfl rfl) ?_
  refine s_val rfl rfl (v_cmp rfl rfl rfl rfl) ?_
  refine s_val rfl rfl (v_assign rfl rfl) ?_
  refine wpList_nil ?_
  refine c_split rfl (fun hc4 => ?_) (fun hc4 => ?_)
  · skip
    try simp only [Bool.and_eq_true, Bool.or_eq_true, Bool.and_eq_false_iff, Bool.or_eq_false_iff, Bool.not_eq_true', Bool.not_eq_false', decide_eq_true_eq, decide_eq_false_iff_not, beq_iff_eq, beq_eq_false_iff_ne, bne_iff_ne, bne_eq_false_iff_eq, ne_eq, Classical.not_not] at hc4
    refine wp_seq ?_
    refine wp_region_lit ?_
    refine s_val rfl rfl (v_move rfl rfl) ?_
    refine s_val rfl rfl (v_ofByte rfl rfl Tryz.underlying5 Tryz.underlying3 (by first | omega | (rw [and31b hb]; omega) | (rw [and15b hb]; omega) | (rw [and7b hb]; omega)) (by first | omega | (rw [and31b hb]; omega) | (rw [and15b hb]; omega) | (rw [and7b hb]; omega))) ?_
    refine s_val rfl rfl (v_assign rfl rfl) ?_
    refine s_val rfl rfl (v_assign rfl rfl) ?_
    refine wpList_nil ?_
    refine wp_ret ?_
    refine ret_tmp2 Tryz.results191 rfl rfl ?_
    have he : hdU b = (1, b) := by
      unfold hdU
      rw [if_pos (by omega)]
    refine ⟨cx.ext, ?_⟩
    exact tup_h he rfl rfl
  · skip
    try simp only [Bool.and_eq_true, Bool.or_eq_true, Bool.and_eq_false_iff, Bool.or_eq_false_iff, Bool.not_eq_true', Bool.not_eq_false', decide_eq_true_eq, decide_eq_false_iff_not, beq_iff_eq, beq_eq_false_iff_ne, bne_iff_ne, bne_eq_false_iff_eq, ne_eq, Classical.not_not] at hc4
    refine wp_seq ?_
    refine wp_region_lit ?_
    refine s_val rfl rfl (v_move rfl rfl) ?_
    refine s_val rfl rfl (v_cmp rfl rfl rfl rfl) ?_
    refine s_val rfl rfl (v_move rfl rfl) ?_
    refine s_gval rfl rfl rfl (by first | exact w_tt rfl | exact w_gt rfl) (fun hc => v_move rfl (by first | exact gve hc rfl | exact gve (and_l hc) rfl | exact gve (and_l (and_l hc)) rfl | rfl)) ?_
    refine s_gval rfl rfl rfl (by first | exact w_tt rfl | exact w_gt rfl) (fun hc => v_cmp rfl (by first | exact gve hc rfl | exact gve (and_l hc) rfl | exact gve (and_l (and_l hc)) rfl | rfl) rfl rfl) ?_
    refine s_val rfl rfl (v_and rfl rfl rfl rfl) ?_
    refine s_val rfl rfl (v_assign rfl rfl) ?_
    refine wpList_nil ?_
    refine c_split rfl (fun hc9 => ?_) (fun hc9 => ?_)
    · skip
      try simp only [Bool.and_eq_true, Bool.or_eq_true, Bool.and_eq_false_iff, Bool.or_eq_false_iff, Bool.not_eq_true', Bool.not_eq_false', decide_eq_true_eq, decide_eq_false_iff_not, beq_iff_eq, beq_eq_false_iff_ne, bne_iff_ne, bne_eq_false_iff_eq, ne_eq, Classical.not_not] at hc9
      refine wp_seq ?_
      refine wp_region_lit ?_
      refine s_val rfl rfl (v_move rfl rfl) ?_
      refine s_val rfl rfl (v_band rfl rfl rfl) ?_
      refine s_val rfl rfl (v_ofByte rfl rfl Tryz.underlying5 Tryz.underlying3 (by first | omega | (rw [and31b hb]; omega) | (rw [and15b hb]; omega) | (rw [and7b hb]; omega)) (by first | omega | (rw [and31b hb]; omega) | (rw [and15b hb]; omega) | (rw [and7b hb]; omega))) ?_
      refine s_val rfl rfl (v_assign rfl rfl) ?_
      refine s_val rfl rfl (v_assign rfl rfl) ?_
      refine wpList_nil ?_
      refine wp_ret ?_
      refine ret_tmp2 Tryz.results191 rfl rfl ?_
      have he : hdU b = (2, b % 32) := by
        unfold hdU
        rw [if_neg (by omega)]
        rw [if_pos (by omega)]
      refine ⟨cx.ext, ?_⟩
      exact tup_h he rfl (congrArg (Value.int .i64) (and31b hb))
    · skip
      try simp only [Bool.and_eq_true, Bool.or_eq_true, Bool.and_eq_false_iff, Bool.or_eq_false_iff, Bool.not_eq_true', Bool.not_eq_false', decide_eq_true_eq, decide_eq_false_iff_not, beq_iff_eq, beq_eq_false_iff_ne, bne_iff_ne, bne_eq_false_iff_eq, ne_eq, Classical.not_not] at hc9
      refine wp_seq ?_
      refine wp_region_lit ?_
      refine s_val rfl rfl (v_move rfl rfl) ?_
      refine s_val rfl rfl (v_cmp rfl rfl rfl rfl) ?_
      refine s_val rfl rfl (v_move rfl rfl) ?_
      refine s_gval rfl rfl rfl (by first | exact w_tt rfl | exact w_gt rfl) (fun hc => v_move rfl (by first | exact gve hc rfl | exact gve (and_l hc) rfl | exact gve (and_l (and_l hc)) rfl | rfl)) ?_
      refine s_gval rfl rfl rfl (by first | exact w_tt rfl | exact w_gt rfl) (fun hc => v_cmp rfl (by first | exact gve hc rfl | exact gve (and_l hc) rfl | exact gve (and_l (and_l hc)) rfl | rfl) rfl rfl) ?_
      refine s_val rfl rfl (v_and rfl rfl rfl rfl) ?_
      refine s_val rfl rfl (v_assign rfl rfl) ?_
      refine wpList_nil ?_
      refine c_split rfl (fun hc19 => ?_) (fun hc19 => ?_)
      · skip
        try simp only [Bool.and_eq_true, Bool.or_eq_true, Bool.and_eq_false_iff, Bool.or_eq_false_iff, Bool.not_eq_true', Bool.not_eq_false', decide_eq_true_eq, decide_eq_false_iff_not, beq_iff_eq, beq_eq_false_iff_ne, bne_iff_ne, bne_eq_false_iff_eq, ne_eq, Classical.not_not] at hc19
        refine wp_seq ?_
        refine wp_region_lit ?_
        refine s_val rfl rfl (v_move rfl rfl) ?_
        refine s_val rfl rfl (v_band rfl rfl rfl) ?_
        refine s_val rfl rfl (v_ofByte rfl rfl Tryz.underlying5 Tryz.underlying3 (by first | omega | (rw [and31b hb]; omega) | (rw [and15b hb]; omega) | (rw [and7b hb]; omega)) (by first | omega | (rw [and31b hb]; omega) | (rw [and15b hb]; omega) | (rw [and7b hb]; omega))) ?_
        refine s_val rfl rfl (v_assign rfl rfl) ?_
        refine s_val rfl rfl (v_assign rfl rfl) ?_
        refine wpList_nil ?_
        refine wp_ret ?_
        refine ret_tmp2 Tryz.results191 rfl rfl ?_
        have he : hdU b = (3, b % 16) := by
          unfold hdU
          rw [if_neg (by omega)]
          rw [if_neg (by omega)]
          rw [if_pos (by omega)]
        refine ⟨cx.ext, ?_⟩
        exact tup_h he rfl (congrArg (Value.int .i64) (and15b hb))
      · skip
        try simp only [Bool.and_eq_true, Bool.or_eq_true, Bool.and_eq_false_iff, Bool.or_eq_false_iff, Bool.not_eq_true', Bool.not_eq_false', decide_eq_true_eq, decide_eq_false_iff_not, beq_iff_eq, beq_eq_false_iff_ne, bne_iff_ne, bne_eq_false_iff_eq, ne_eq, Classical.not_not] at hc19
        refine wp_seq ?_
        refine wp_region_lit ?_
        refine s_val rfl rfl (v_move rfl rfl) ?_
        refine s_val rfl rfl (v_cmp rfl rfl rfl rfl) ?_
        refine s_val rfl rfl (v_move rfl rfl) ?_
        refine s_gval rfl rfl rfl (by first | exact w_tt rfl | exact w_gt rfl) (fun hc => v_move rfl (by first | exact gve hc rfl | exact gve (and_l hc) rfl | exact gve (and_l (and_l hc)) rfl | rfl)) ?_
        refine s_gval rfl rfl rfl (by first | exact w_tt rfl | exact w_gt rfl) (fun hc => v_cmp rfl (by first | exact gve hc rfl | exact gve (and_l hc) rfl | exact gve (and_l (and_l hc)) rfl | rfl) rfl rfl) ?_
        refine s_val rfl rfl (v_and rfl rfl rfl rfl) ?_
        refine s_val rfl rfl (v_assign rfl rfl) ?_
        refine wpList_nil ?_
        refine c_split rfl (fun hc29 => ?_) (fun hc29 => ?_)
        · skip
          try simp only [Bool.and_eq_true, Bool.or_eq_true, Bool.and_eq_false_iff, Bool.or_eq_false_iff, Bool.not_eq_true', Bool.not_eq_false', decide_eq_true_eq, decide_eq_false_iff_not, beq_iff_eq, beq_eq_false_iff_ne, bne_iff_ne, bne_eq_false_iff_eq, ne_eq, Classical.not_not] at hc29
          refine wp_seq ?_
          refine wp_region_lit ?_
          refine s_val rfl rfl (v_move rfl rfl) ?_
          refine s_val rfl rfl (v_band rfl rfl rfl) ?_
          refine s_val rfl rfl (v_ofByte rfl rfl Tryz.underlying5 Tryz.underlying3 (by first | omega | (rw [and31b hb]; omega) | (rw [and15b hb]; omega) | (rw [and7b hb]; omega)) (by first | omega | (rw [and31b hb]; omega) | (rw [and15b hb]; omega) | (rw [and7b hb]; omega))) ?_
          refine s_val rfl rfl (v_assign rfl rfl) ?_
          refine s_val rfl rfl (v_assign rfl rfl) ?_
          refine wpList_nil ?_
          refine wp_ret ?_
          refine ret_tmp2 Tryz.results191 rfl rfl ?_
          have he : hdU b = (4, b % 8) := by
            unfold hdU
            rw [if_neg (by omega)]
            rw [if_neg (by omega)]
            rw [if_neg (by omega)]
            rw [if_pos (by omega)]
          refine ⟨cx.ext, ?_⟩
          exact tup_h he rfl (congrArg (Value.int .i64) (and7b hb))
        · skip
          try simp only [Bool.and_eq_true, Bool.or_eq_true, Bool.and_eq_false_iff, Bool.or_eq_false_iff, Bool.not_eq_true', Bool.not_eq_false', decide_eq_true_eq, decide_eq_false_iff_not, beq_iff_eq, beq_eq_false_iff_ne, bne_iff_ne, bne_eq_false_iff_eq, ne_eq, Classical.not_not] at hc29
          refine wp_skip ?_
          refine wp_seq ?_
          refine wp_region_lit ?_
          refine s_val rfl rfl (v_assign rfl rfl) ?_
          refine s_val rfl rfl (v_assign rfl rfl) ?_
          refine wpList_nil ?_
          refine wp_ret ?_
          refine ret_tmp2 Tryz.results191 rfl rfl ?_
          have he : hdU b = (0, 0) := by
            unfold hdU
            rw [if_neg (by omega)]
            rw [if_neg (by omega)]
            rw [if_neg (by omega)]
            rw [if_neg (by omega)]
          refine ⟨cx.ext, ?_⟩
          exact tup_h he rfl rfl
set_option maxRecDepth 10000 in
theorem c121 (s : ByteArray) (a : Nat) (w0 : World) (hs : s.size ≤ 1073741824) (ha : a < s.size) : Fc Tryz.prog 121 [.string s, .int .i64 a] w0 (fun v _ => ∃ r : Int, v = .tuple #[.int .i64 r, .int .i64 (szAt s a)]) := by
  refine ret_enter Tryz.func121 rfl Tryz.ntmps121 rfl ?_
  have cx := Ctx.start w0
  refine wp_seq ?_
  refine wp_region_lit ?_
  refine s_val rfl rfl (v_assign rfl rfl) ?_
  refine s_val rfl rfl (v_assign rfl rfl) ?_
  refine wpList_nil ?_
  refine wp_seq ?_
  refine wp_seq ?_
  refine wp_region_lit ?_
  refine s_val rfl rfl (v_move rfl rfl) ?_
  refine s_val rfl rfl (v_cmp rfl rfl rfl rfl) ?_
  refine s_val rfl rfl (v_move rfl rfl) ?_
  refine s_gval rfl rfl rfl (by first | exact w_ff rfl | exact w_gf rfl) (fun hc => v_move rfl (by first | exact gve hc rfl | exact gve (and_l hc) rfl | exact gve (and_l (and_l hc)) rfl | rfl)) ?_
  refine s_gval rfl rfl rfl (by first | exact w_ff rfl | exact w_gf rfl) (fun hc => v_move rfl (by first | exact gve hc rfl | exact gve (and_l hc) rfl | exact gve (and_l (and_l hc)) rfl | rfl)) ?_
  refine s_gval rfl rfl rfl (by first | exact w_ff rfl | exact w_gf rfl) (fun hc => v_lenString rfl (by first | exact gve hc rfl | exact gve (and_l hc) rfl | exact gve (and_l (and_l hc)) rfl | rfl) Tryz.underlying9) ?_
  refine s_gval rfl rfl rfl (by first | exact w_ff rfl | exact w_gf rfl) (fun hc => v_cmp rfl (by first | exact gve hc rfl | exact gve (and_l hc) rfl | exact gve (and_l (and_l hc)) rfl | rfl) (by first | exact gve hc rfl | exact gve (and_l hc) rfl | exact gve (and_l (and_l hc)) rfl | rfl) rfl) ?_
  refine s_val rfl rfl (v_or rfl rfl rfl rfl) ?_
  refine wpList_nil ?_
  refine c_split rfl (fun hc16 => ?_) (fun hc16 => ?_)
  · skip
    try simp only [Bool.and_eq_true, Bool.or_eq_true, Bool.and_eq_false_iff, Bool.or_eq_false_iff, Bool.not_eq_true', Bool.not_eq_false', decide_eq_true_eq, decide_eq_false_iff_not, beq_iff_eq, beq_eq_false_iff_ne, bne_iff_ne, bne_eq_false_iff_eq, ne_eq, Classical.not_not] at hc16
    refine wp_seq ?_
    refine wp_region_lit ?_
    refine s_val rfl rfl (v_assign rfl rfl) ?_
    refine s_val rfl rfl (v_assign rfl rfl) ?_
    refine wpList_nil ?_
    refine wp_ret ?_
    refine ret_tmp2 Tryz.results121 rfl rfl ?_
    exfalso
    omega
  · skip
    try simp only [Bool.and_eq_true, Bool.or_eq_true, Bool.and_eq_false_iff, Bool.or_eq_false_iff, Bool.not_eq_true', Bool.not_eq_false', decide_eq_true_eq, decide_eq_false_iff_not, beq_iff_eq, beq_eq_false_iff_ne, bne_iff_ne, bne_eq_false_iff_eq, ne_eq, Classical.not_not] at hc16
    refine wp_skip ?_
    refine wp_seq ?_
    refine wp_region_lit ?_
    refine s_val rfl rfl (v_move rfl rfl) ?_
    refine s_val rfl rfl (v_move rfl rfl) ?_
    refine s_val rfl rfl (v_idxStr rfl rfl rfl Tryz.underlying9 (by omega) (by omega)) ?_
    refine s_fn cx (c191 _ _ (bA_lt s a)) Tryz.func191 rfl rfl rfl rfl rfl rfl ?_; intro q21 w cx hw21 hp21
    subst hp21
    refine s_val rfl rfl (v_move rfl rfl) ?_
    refine s_val rfl rfl (v_extract rfl rfl rfl) ?_
    refine s_val rfl rfl (v_extract rfl rfl rfl) ?_
    refine s_val rfl rfl (v_assign rfl rfl) ?_
    refine s_val rfl rfl (v_assign rfl rfl) ?_
    refine wpList_nil ?_
    refine wp_seq ?_
    refine wp_seq ?_
    refine wp_region_lit ?_
    refine s_val rfl rfl (v_move rfl rfl) ?_
    refine s_val rfl rfl (v_cmp rfl rfl rfl rfl) ?_
    refine s_val rfl rfl (v_move rfl rfl) ?_
    refine s_gval rfl rfl rfl (by first | exact w_ff rfl | exact w_gf rfl) (fun hc => v_move rfl (by first | exact gve hc rfl | exact gve (and_l hc) rfl | exact gve (and_l (and_l hc)) rfl | rfl)) ?_
    refine s_gval rfl rfl rfl (by first | exact w_ff rfl | exact w_gf rfl) (fun hc => v_move rfl (by first | exact gve hc rfl | exact gve (and_l hc) rfl | exact gve (and_l (and_l hc)) rfl | rfl)) ?_
    refine s_gval rfl rfl rfl (by first | exact w_ff rfl | exact w_gf rfl) (fun hc => v_lenString rfl (by first | exact gve hc rfl | exact gve (and_l hc) rfl | exact gve (and_l (and_l hc)) rfl | rfl) Tryz.underlying9) ?_
    refine s_gval rfl rfl rfl (by first | exact w_ff rfl | exact w_gf rfl) (fun hc => v_move rfl (by first | exact gve hc rfl | exact gve (and_l hc) rfl | exact gve (and_l (and_l hc)) rfl | rfl)) ?_
    refine s_gval rfl rfl rfl (by first | exact w_ff rfl | exact w_gf rfl) (fun hc => v_sub rfl (by first | exact gve hc rfl | exact gve (and_l hc) rfl | exact gve (and_l (and_l hc)) rfl | rfl) (by first | exact gve hc rfl | exact gve (and_l hc) rfl | exact gve (and_l (and_l hc)) rfl | rfl) (by first | omega | (simp only [Bool.and_eq_true, Bool.or_eq_true, Bool.and_eq_false_iff, Bool.or_eq_false_iff, Bool.not_eq_true', Bool.not_eq_false', decide_eq_true_eq, decide_eq_false_iff_not, beq_iff_eq, beq_eq_false_iff_ne, bne_iff_ne, bne_eq_false_iff_eq, ne_eq, Classical.not_not] at hc; omega)) (by first | omega | (simp only [Bool.and_eq_true, Bool.or_eq_true, Bool.and_eq_false_iff, Bool.or_eq_false_iff, Bool.not_eq_true', Bool.not_eq_false', decide_eq_true_eq, decide_eq_false_iff_not, beq_iff_eq, beq_eq_false_iff_ne, bne_iff_ne, bne_eq_false_iff_eq, ne_eq, Classical.not_not] at hc; omega))) ?_
    refine s_gval rfl rfl rfl (by first | exact w_ff rfl | exact w_gf rfl) (fun hc => v_cmp rfl (by first | exact gve hc rfl | exact gve (and_l hc) rfl | exact gve (and_l (and_l hc)) rfl | rfl) (by first | exact gve hc rfl | exact gve (and_l hc) rfl | exact gve (and_l (and_l hc)) rfl | rfl) rfl) ?_
    refine s_val rfl rfl (v_or rfl rfl rfl rfl) ?_
    refine wpList_nil ?_
    refine c_split rfl (fun hc33 => ?_) (fun hc33 => ?_)
    · skip
      try simp only [Bool.and_eq_true, Bool.or_eq_true, Bool.and_eq_false_iff, Bool.or_eq_false_iff, Bool.not_eq_true', Bool.not_eq_false', decide_eq_true_eq, decide_eq_false_iff_not, beq_iff_eq, beq_eq_false_iff_ne, bne_iff_ne, bne_eq_false_iff_eq, ne_eq, Classical.not_not] at hc33
      refine wp_seq ?_
      refine wp_region_lit ?_
      refine s_val rfl rfl (v_assign rfl rfl) ?_
      refine s_val rfl rfl (v_assign rfl rfl) ?_
      refine wpList_nil ?_
      refine wp_ret ?_
      refine ret_tmp2 Tryz.results121 rfl rfl ?_
      exact ⟨cx.ext, 0, tup_sz (m := 0) (szU_short ha (by omega)) rfl rfl⟩
    · skip
      try simp only [Bool.and_eq_true, Bool.or_eq_true, Bool.and_eq_false_iff, Bool.or_eq_false_iff, Bool.not_eq_true', Bool.not_eq_false', decide_eq_true_eq, decide_eq_false_iff_not, beq_iff_eq, beq_eq_false_iff_ne, bne_iff_ne, bne_eq_false_iff_eq, ne_eq, Classical.not_not] at hc33
      refine wp_skip ?_
      refine wp_seq ?_
      refine wp_seq ?_
      refine wp_region_lit ?_
      refine s_val rfl rfl (v_assign rfl rfl) ?_
      refine wpList_nil ?_
      refine wp_block ?_
      have hlo := hdU_lo (bA s a) (bA_lt s a)
      refine w_loop (fun k f w1 => ∃ i : Nat, 1 ≤ i ∧ k + i = (hdU (bA s a)).1 ∧ (∀ j, 1 ≤ j → j < i → bA s (a + j) / 64 = 2) ∧ f 0 = .string s ∧ f 1 = .int .i64 a ∧ f 6 = .int .i64 (hdU (bA s a)).1 ∧ f 4 = .int .i64 (accN s a (hdU (bA s a)).2 (i - 1)) ∧ f 7 = .int .i64 i ∧ Ctx w0 w1 []) ((hdU (bA s a)).1 - 1) ?_ ?_
      · skip
        exact ⟨1, by omega, by omega, fun j h1 h2 => by omega, rfl, rfl, rfl, rfl, rfl, cx⟩
      intro gk7 f w hJ
      obtain ⟨i, hi, hk, hall, hs0, hs1, hs6, hs4, hs7, cx⟩ := hJ
      have hacc := accN_lt s a (hdU (bA s a)).2 (by omega) (i - 1) (by omega)
      have hacc2 : 256 * 64 ^ (i - 1) ≤ 67108864 := Nat.le_trans (Nat.mul_le_mul_left 256 (Nat.pow_le_pow_right (by decide) (show i - 1 ≤ 3 by omega))) (by decide)
      refine wp_seq ?_
      refine wp_seq ?_
      refine wp_region_lit ?_
      refine s_val rfl rfl (v_move rfl hs7) ?_
      refine s_val rfl rfl (v_move rfl hs6) ?_
      refine s_val rfl rfl (v_cmp rfl rfl rfl rfl) ?_
      refine wpList_nil ?_
      refine c_split rfl (fun hc36 => ?_) (fun hc36 => ?_)
      · skip
        try simp only [Bool.and_eq_true, Bool.or_eq_true, Bool.and_eq_false_iff, Bool.or_eq_false_iff, Bool.not_eq_true', Bool.not_eq_false', decide_eq_true_eq, decide_eq_false_iff_not, beq_iff_eq, beq_eq_false_iff_ne, bne_iff_ne, bne_eq_false_iff_eq, ne_eq, Classical.not_not] at hc36
        refine wp_skip ?_
        refine wp_seq ?_
        refine wp_block ?_
        refine wp_seq ?_
        refine wp_region_lit ?_
        refine s_val rfl rfl (v_move rfl hs0) ?_
        refine s_val rfl rfl (v_move rfl hs1) ?_
        refine s_val rfl rfl (v_move rfl hs7) ?_
        refine s_val rfl rfl (v_add rfl rfl rfl (by omega) (by omega)) ?_
        refine s_val rfl rfl (v_idxStr rfl rfl rfl Tryz.underlying9 (by omega) (by omega)) ?_
        refine s_val rfl rfl (v_assign rfl rfl) ?_
        refine wpList_nil ?_
        refine wp_seq ?_
        refine wp_seq ?_
        refine wp_region_lit ?_
        refine s_val rfl rfl (v_move rfl rfl) ?_
        refine s_val rfl rfl (v_band rfl rfl rfl) ?_
        refine s_val rfl rfl (v_cmp rfl rfl rfl rfl) ?_
        refine wpList_nil ?_
        refine c_split rfl (fun hc46 => ?_) (fun hc46 => ?_)
        · skip
          try simp only [Bool.and_eq_true, Bool.or_eq_true, Bool.and_eq_false_iff, Bool.or_eq_false_iff, Bool.not_eq_true', Bool.not_eq_false', decide_eq_true_eq, decide_eq_false_iff_not, beq_iff_eq, beq_eq_false_iff_ne, bne_iff_ne, bne_eq_false_iff_eq, ne_eq, Classical.not_not] at hc46
          refine wp_seq ?_
          refine wp_region_lit ?_
          refine s_val rfl rfl (v_assign rfl rfl) ?_
          refine s_val rfl rfl (v_assign rfl rfl) ?_
          refine wpList_nil ?_
          refine wp_ret ?_
          refine ret_tmp2 Tryz.results121 rfl rfl ?_
          refine ⟨cx.ext, 0, tup_sz (m := 0) (szU_cont (i := i) (by omega) (by omega) (fun h => hc46 ?_)) rfl rfl⟩
          rw [show ((a : Int) + (i : Int)) = ((a + i : Nat) : Int) by omega, byteAt_bA]
          exact (and192b (bA_lt _ _)).2 h
        · skip
          try simp only [Bool.and_eq_true, Bool.or_eq_true, Bool.and_eq_false_iff, Bool.or_eq_false_iff, Bool.not_eq_true', Bool.not_eq_false', decide_eq_true_eq, decide_eq_false_iff_not, beq_iff_eq, beq_eq_false_iff_ne, bne_iff_ne, bne_eq_false_iff_eq, ne_eq, Classical.not_not] at hc46
          refine wp_skip ?_
          refine wp_region_lit ?_
          refine s_val rfl rfl (v_move rfl hs4) ?_
          refine s_val rfl rfl (v_shl rfl rfl rfl (by decide)) ?_
          refine s_val rfl rfl (v_move rfl rfl) ?_
          refine s_val rfl rfl (v_band rfl rfl rfl) ?_
          refine s_val rfl rfl (v_ofByte rfl rfl Tryz.underlying5 Tryz.underlying3 (by rw [show ((a : Int) + (i : Int)) = ((a + i : Nat) : Int) by omega, byteAt_bA, and63b (bA_lt _ _)]; omega) (by rw [show ((a : Int) + (i : Int)) = ((a + i : Nat) : Int) by omega, byteAt_bA, and63b (bA_lt _ _)]; omega)) ?_
          refine s_val rfl rfl (v_bor rfl rfl rfl) ?_
          refine s_val rfl rfl (v_assign rfl rfl) ?_
          refine wpList_nil ?_
          refine wp_region_lit ?_
          refine s_val rfl rfl (v_move rfl hs7) ?_
          refine s_val rfl rfl (v_add rfl rfl rfl (by omega) (by omega)) ?_
          refine s_val rfl rfl (v_assign rfl rfl) ?_
          refine wpList_nil ?_
          refine ⟨gk7 - 1, _, by omega, rfl, i + 1, by omega, by omega, fun j h1 h2 => ?_, hs0, hs1, hs6, congrArg (Value.int .i64) ?_, rfl, cx⟩
          · rcases Nat.lt_or_ge j i with h3 | h3
            · exact hall j h1 h3
            · obtain rfl : j = i := by omega
              rw [show ((a : Int) + (j : Int)) = ((a + j : Nat) : Int) by omega, byteAt_bA] at hc46
              exact (and192b (bA_lt _ _)).1 hc46
          · rw [show ((a : Int) + (i : Int)) = ((a + i : Nat) : Int) by omega, byteAt_bA, and63b (bA_lt _ _)]
            refine (congrArg (fun z => bitOp .or .i64 z _) (shl6 (by omega))).trans ?_
            rw [or_add (by omega) (by omega)]
            obtain ⟨i, rfl⟩ : ∃ j, i = j + 1 := ⟨i - 1, by omega⟩
            rfl
      · skip
        try simp only [Bool.and_eq_true, Bool.or_eq_true, Bool.and_eq_false_iff, Bool.or_eq_false_iff, Bool.not_eq_true', Bool.not_eq_false', decide_eq_true_eq, decide_eq_false_iff_not, beq_iff_eq, beq_eq_false_iff_ne, bne_iff_ne, bne_eq_false_iff_eq, ne_eq, Classical.not_not] at hc36
        refine wp_exit ?_
        refine wp_seq ?_
        refine wp_seq ?_
        refine wp_region_lit ?_
        refine s_val rfl rfl (v_move rfl hs4) ?_
        refine s_fnB cx (c192 _ _) Tryz.func192 rfl rfl rfl rfl rfl rfl ?_; intro q54 w cx hw54 hp54
        refine s_val rfl rfl (v_not rfl rfl) ?_
        refine s_val rfl rfl (v_move rfl rfl) ?_
        refine s_gval rfl rfl rfl (by first | exact w_ff rfl | exact w_gf rfl) (fun hc => v_move rfl hs4) ?_
        refine s_gfnI cx rfl rfl rfl (by first | exact w_ff rfl | exact w_gf rfl) (fun hc => c193 _ _) Tryz.func193 rfl rfl rfl (fun hc => (cons_eq (by first | exact gve hc rfl | exact gve (and_l hc) rfl | exact gve (and_l (and_l hc)) rfl | rfl) rfl)) ?_; intro q58 w cx hw58 hp58
        refine s_gval rfl rfl rfl (by first | exact w_ff rfl | exact w_gf rfl) (fun hc => v_move rfl hs6) ?_
        refine s_gval rfl rfl rfl (by first | exact w_ff rfl | exact w_gf rfl) (fun hc => v_cmp rfl (by first | exact gve hc rfl | exact gve (and_l hc) rfl | exact gve (and_l (and_l hc)) rfl | rfl) (by first | exact gve hc rfl | exact gve (and_l hc) rfl | exact gve (and_l (and_l hc)) rfl | rfl) rfl) ?_
        refine s_val rfl rfl (v_or rfl rfl rfl rfl) ?_
        refine wpList_nil ?_
        refine c_split rfl (fun hc61 => ?_) (fun hc61 => ?_)
        · skip
          try simp only [Bool.and_eq_true, Bool.or_eq_true, Bool.and_eq_false_iff, Bool.or_eq_false_iff, Bool.not_eq_true', Bool.not_eq_false', decide_eq_true_eq, decide_eq_false_iff_not, beq_iff_eq, beq_eq_false_iff_ne, bne_iff_ne, bne_eq_false_iff_eq, ne_eq, Classical.not_not] at hc61
          refine wp_seq ?_
          refine wp_region_lit ?_
          refine s_val rfl rfl (v_assign rfl rfl) ?_
          refine s_val rfl rfl (v_assign rfl rfl) ?_
          refine wpList_nil ?_
          refine wp_ret ?_
          refine ret_tmp2 Tryz.results121 rfl rfl ?_
          have hi' : i = (hdU (bA s a)).1 := by omega
          have hz : szAt s a = 0 := by
            rw [szU_end ha (by omega) (by omega) (fun j h1 h2 => hall j h1 (by omega)), ← hi', if_neg]
            rintro ⟨e1, e2⟩
            rcases hc61 with h | h
            · rw [hp54, e1] at h; cases h
            · rw [hp58 (by rw [hp54, e1]; rfl)] at h; omega
          exact ⟨cx.ext, 0, tup_sz (m := 0) hz rfl rfl⟩
        · skip
          try simp only [Bool.and_eq_true, Bool.or_eq_true, Bool.and_eq_false_iff, Bool.or_eq_false_iff, Bool.not_eq_true', Bool.not_eq_false', decide_eq_true_eq, decide_eq_false_iff_not, beq_iff_eq, beq_eq_false_iff_ne, bne_iff_ne, bne_eq_false_iff_eq, ne_eq, Classical.not_not] at hc61
          refine wp_skip ?_
          refine wp_seq ?_
          refine wp_region_lit ?_
          refine s_val rfl rfl (v_move rfl hs4) ?_
          refine s_val rfl rfl (v_move rfl hs6) ?_
          refine s_val rfl rfl (v_assign rfl rfl) ?_
          refine s_val rfl rfl (v_assign rfl rfl) ?_
          refine wpList_nil ?_
          refine wp_ret ?_
          refine ret_tmp2 Tryz.results121 rfl rfl ?_
          have hi' : i = (hdU (bA s a)).1 := by omega
          obtain ⟨h1, h2⟩ := hc61
          have hz : szAt s a = (hdU (bA s a)).1 := by
            rw [szU_end ha (by omega) (by omega) (fun j h1 h2 => hall j h1 (by omega)), ← hi', if_pos]
            refine ⟨by rw [← hp54]; exact h1, ?_⟩
            have := hp58 (by rw [h1]; rfl)
            omega
          exact ⟨cx.ext, _, tup_sz hz rfl rfl⟩
set_option maxRecDepth 10000 in
theorem c150 (s : ByteArray) (w0 : World) (hs : s.size ≤ 1073741824) : Fc Tryz.prog 150 [.string s] w0 (fun v _ => ∃ n : Int, v = .tuple #[.int .i64 n, .int .i64 (if validD s.data.toList = true then 0 else 5)]) := by
  refine ret_enter Tryz.func150 rfl Tryz.ntmps150 rfl ?_
  have cx := Ctx.start w0
  refine wp_seq ?_
  refine wp_region_lit ?_
  refine s_val rfl rfl (v_assign rfl rfl) ?_
  refine s_val rfl rfl (v_assign rfl rfl) ?_
  refine wpList_nil ?_
  refine wp_seq ?_
  refine wp_region_lit ?_
  refine s_val rfl rfl (v_assign rfl rfl) ?_
  refine wpList_nil ?_
  refine wp_seq ?_
  refine wp_seq ?_
  refine wp_region_lit ?_
  refine s_val rfl rfl (v_assign rfl rfl) ?_
  refine wpList_nil ?_
  refine wp_block ?_
  refine w_loop (fun k f w1 => ∃ i m : Nat, k + i = s.size ∧ m ≤ i ∧ validD s.data.toList = validD (s.data.toList.drop i) ∧ f 0 = .string s ∧ f 5 = .int .i64 i ∧ f 4 = .int .i64 m ∧ Ctx w0 w1 []) (s.size) ?_ ?_
  · skip
    exact ⟨0, 0, by omega, by omega, rfl, rfl, rfl, rfl, cx⟩
  intro gk3 f w hJ
  obtain ⟨i, m, hk, hm, hv0, hs0, hs5, hs4, cx⟩ := hJ
  refine wp_seq ?_
  refine wp_seq ?_
  refine wp_region_lit ?_
  refine s_val rfl rfl (v_move rfl hs5) ?_
  refine s_val rfl rfl (v_move rfl hs0) ?_
  refine s_val rfl rfl (v_lenString rfl rfl Tryz.underlying9) ?_
  refine s_val rfl rfl (v_cmp rfl rfl rfl rfl) ?_
  refine wpList_nil ?_
  refine c_split rfl (fun hc11 => ?_) (fun hc11 => ?_)
  · skip
    try simp only [Bool.and_eq_true, Bool.or_eq_true, Bool.and_eq_false_iff, Bool.or_eq_false_iff, Bool.not_eq_true', Bool.not_eq_false', decide_eq_true_eq, decide_eq_false_iff_not, beq_iff_eq, beq_eq_false_iff_ne, bne_iff_ne, bne_eq_false_iff_eq, ne_eq, Classical.not_not] at hc11
    have hsz := szAt_le s i (by omega)
    refine wp_skip ?_
    refine wp_seq ?_
    refine wp_block ?_
    refine wp_seq ?_
    refine wp_region_lit ?_
    refine s_val rfl rfl (v_move rfl hs0) ?_
    refine s_val rfl rfl (v_move rfl hs5) ?_
    refine s_fn cx (c121 _ _ _ (by omega) (by omega)) Tryz.func121 rfl rfl rfl rfl rfl rfl ?_; intro q17 w cx hw17 hp17
    obtain ⟨er17, rfl⟩ := hp17
    refine s_val rfl rfl (v_move rfl rfl) ?_
    refine s_val rfl rfl (v_extract rfl rfl rfl) ?_
    refine s_val rfl rfl (v_extract rfl rfl rfl) ?_
    refine s_val rfl rfl (v_assign rfl rfl) ?_
    refine s_val rfl rfl (v_assign rfl rfl) ?_
    refine wpList_nil ?_
    refine wp_seq ?_
    refine wp_seq ?_
    refine wp_region_lit ?_
    refine s_val rfl rfl (v_move rfl rfl) ?_
    refine s_val rfl rfl (v_cmp rfl rfl rfl rfl) ?_
    refine wpList_nil ?_
    refine c_split rfl (fun hc21 => ?_) (fun hc21 => ?_)
    · skip
      try simp only [Bool.and_eq_true, Bool.or_eq_true, Bool.and_eq_false_iff, Bool.or_eq_false_iff, Bool.not_eq_true', Bool.not_eq_false', decide_eq_true_eq, decide_eq_false_iff_not, beq_iff_eq, beq_eq_false_iff_ne, bne_iff_ne, bne_eq_false_iff_eq, ne_eq, Classical.not_not] at hc21
      refine wp_seq ?_
      refine wp_region_lit ?_
      refine s_val rfl rfl (v_assign rfl rfl) ?_
      refine s_val rfl rfl (v_assign rfl rfl) ?_
      refine wpList_nil ?_
      refine wp_ret ?_
      refine ret_tmp2 Tryz.results150 rfl rfl ?_
      have hz : (5 : Int) = (if validD s.data.toList = true then 0 else 5) := by rw [hv0, valid_0 s i (by omega) (by omega)]; rfl
      exact ⟨cx.ext, 0, tup_i hz rfl rfl⟩
    · skip
      try simp only [Bool.and_eq_true, Bool.or_eq_true, Bool.and_eq_false_iff, Bool.or_eq_false_iff, Bool.not_eq_true', Bool.not_eq_false', decide_eq_true_eq, decide_eq_false_iff_not, beq_iff_eq, beq_eq_false_iff_ne, bne_iff_ne, bne_eq_false_iff_eq, ne_eq, Classical.not_not] at hc21
      refine wp_skip ?_
      refine wp_region_lit ?_
      refine s_val rfl rfl (v_move rfl hs5) ?_
      refine s_val rfl rfl (v_move rfl rfl) ?_
      refine s_val rfl rfl (v_add rfl rfl rfl (by omega) (by omega)) ?_
      refine s_val rfl rfl (v_assign rfl rfl) ?_
      refine wpList_nil ?_
      refine wp_region_lit ?_
      refine s_val rfl rfl (v_move rfl hs4) ?_
      refine s_val rfl rfl (v_add rfl rfl rfl (by omega) (by omega)) ?_
      refine s_val rfl rfl (v_assign rfl rfl) ?_
      refine wpList_nil ?_
      have hsz := szAt_le s i (by omega)
      refine ⟨gk3 - szAt s i, _, by omega, rfl, i + szAt s i, m + 1, by omega, by omega, ?_, hs0, ?_, rfl, cx⟩
      · rw [hv0]; exact valid_n s i (by omega) (by omega)
      · show Value.int .i64 _ = _
        congr 1
  · skip
    try simp only [Bool.and_eq_true, Bool.or_eq_true, Bool.and_eq_false_iff, Bool.or_eq_false_iff, Bool.not_eq_true', Bool.not_eq_false', decide_eq_true_eq, decide_eq_false_iff_not, beq_iff_eq, beq_eq_false_iff_ne, bne_iff_ne, bne_eq_false_iff_eq, ne_eq, Classical.not_not] at hc11
    refine wp_exit ?_
    refine wp_seq ?_
    refine wp_region_lit ?_
    refine s_val rfl rfl (v_move rfl hs4) ?_
    refine s_val rfl rfl (v_assign rfl rfl) ?_
    refine s_val rfl rfl (v_assign rfl rfl) ?_
    refine wpList_nil ?_
    refine wp_ret ?_
    refine ret_tmp2 Tryz.results150 rfl rfl ?_
    have hz : (0 : Int) = (if validD s.data.toList = true then 0 else 5) := by rw [hv0, valid_end s i (by omega)]; rfl
    exact ⟨cx.ext, _, tup_i hz rfl rfl⟩
set_option maxRecDepth 10000 in
theorem c92 (s : ByteArray) (w0 : World) (hs : s.size ≤ 1073741824) : Fc Tryz.prog 92 [.string s] w0 (IsB fun b => b = validD s.data.toList) := by
  refine ret_enter Tryz.func92 rfl Tryz.ntmps92 rfl ?_
  have cx := Ctx.start w0
  refine wp_seq ?_
  refine wp_region_lit ?_
  refine s_val rfl rfl (v_assign rfl rfl) ?_
  refine wpList_nil ?_
  refine wp_seq ?_
  refine wp_region_lit ?_
  refine s_val rfl rfl (v_move rfl rfl) ?_
  refine s_fn cx (c150 _ _ (by omega)) Tryz.func150 rfl rfl rfl rfl rfl rfl ?_; intro q7 w cx hw7 hp7
  obtain ⟨en7, rfl⟩ := hp7
  refine s_val rfl rfl (v_move rfl rfl) ?_
  refine s_val rfl rfl (v_extract rfl rfl rfl) ?_
  refine s_val rfl rfl (v_extract rfl rfl rfl) ?_
  refine s_val rfl rfl (v_assign rfl rfl) ?_
  refine s_val rfl rfl (v_assign rfl rfl) ?_
  refine wpList_nil ?_
  refine wp_seq ?_
  refine wp_region_lit ?_
  refine s_val rfl rfl (v_move rfl rfl) ?_
  refine s_val rfl rfl (v_cmp rfl rfl rfl rfl) ?_
  refine s_val rfl rfl (v_assign rfl rfl) ?_
  refine wpList_nil ?_
  refine wp_ret ?_
  refine ret_tmp Tryz.results92 rfl ?_
  refine ⟨cx.ext, _, rfl, ?_⟩
  show (_ : Bool) = _
  cases validD s.data.toList <;> rfl
end Go.Proofs.YthiafbkolhnadaaGreatDoor
end
section
set_option linter.unusedSimpArgs false
set_option linter.unusedVariables false
namespace Go.Proofs.YthiafbkolhnadaaGreatDoor
open Go Go.Dk Go.RowKit Go.Lib
attribute [local irreducible] Go.wpList Go.Code.wp Go.bodyPost Go.wpStill Go.wpQuiet
theorem pkys_k : Go.Ev.evalE Tryz.prog env0 8 220 [.slice none 0 0] = some (.int .i64 0) := by kernel_rfl
theorem clb_k : Go.Ev.evalE Tryz.prog env0 8 369 [.slice none 0 0] = some (.slice none 0 0) := by kernel_rfl
theorem clf_k : Go.Ev.evalE Tryz.prog env0 8 365 [.slice none 0 0] = some (.slice none 0 0) := by kernel_rfl
theorem srt_k : Go.Ev.evalE Tryz.prog env0 8 366 [.slice none 0 0, .func (.func 367) #[] #[]] = some (.tuple #[]) := by kernel_rfl
set_option maxHeartbeats 4000000 in
set_option maxRecDepth 10000 in
theorem c217 (c : ByteArray) (w0 : World) : Fc Tryz.prog 217 [.agg (leaf c).toArray] w0 (IsB fun b => b = false) := by
  refine ret_enter Tryz.func217 rfl Tryz.ntmps217 rfl ?_
  have cx := Ctx.start w0
  refine wp_seq ?_
  refine wp_region_lit ?_
  refine s_box cx rfl rfl rfl rfl rfl ?_; intro b1 w cx hb1 hw1
  refine s_val rfl rfl (v_assign rfl rfl) ?_
  refine wpList_nil ?_
  refine wp_seq ?_
  refine wp_region_lit ?_
  refine s_val rfl rfl (v_fa fa83_0 rfl rfl) ?_
  refine s_val rfl rfl (v_load1 rfl rfl Tryz.underlying3 rfl (cx.cell 0 rfl rfl)) ?_
  refine s_val rfl rfl (v_assign rfl rfl) ?_
  refine wpList_nil ?_
  refine wp_seq ?_
  refine wp_region_lit ?_
  refine s_val rfl rfl (v_move rfl rfl) ?_
  refine s_val rfl rfl (v_cmp rfl rfl rfl rfl) ?_
  refine s_val rfl rfl (v_move rfl rfl) ?_
  refine s_gval rfl rfl rfl (by first | exact w_tt rfl | exact w_gt rfl) (fun hc => v_fa fa83_1 rfl (by first | exact gve hc rfl | exact gve (and_l hc) rfl | exact gve (and_l (and_l hc)) rfl | rfl)) ?_
  refine s_gval rfl rfl rfl (by first | exact w_tt rfl | exact w_gt rfl) (fun hc => v_load1 rfl (by first | exact gve hc rfl | exact gve (and_l hc) rfl | exact gve (and_l (and_l hc)) rfl | rfl) Tryz.underlying4 rfl (cx.cell 0 rfl rfl)) ?_
  refine s_val rfl rfl (v_and rfl rfl rfl rfl) ?_
  refine s_val rfl rfl (v_move rfl rfl) ?_
  refine s_gval rfl rfl rfl (by first | exact w_ff rfl | exact w_gf rfl) (fun hc => v_move rfl (by first | exact gve hc rfl | exact gve (and_l hc) rfl | exact gve (and_l (and_l hc)) rfl | rfl)) ?_
  refine s_gval rfl rfl rfl (by first | exact w_ff rfl | exact w_gf rfl) (fun hc => v_cmp rfl (by first | exact gve hc rfl | exact gve (and_l hc) rfl | exact gve (and_l (and_l hc)) rfl | rfl) rfl rfl) ?_
  refine s_gval rfl rfl rfl (by first | exact w_ff rfl | exact w_gf rfl) (fun hc => v_move rfl (by first | exact gve hc rfl | exact gve (and_l hc) rfl | exact gve (and_l (and_l hc)) rfl | rfl)) ?_
  refine s_gval rfl rfl rfl (by first | exact w_tt rfl | exact w_gt rfl) (fun hc => v_fa fa83_2 rfl (by first | exact gve hc rfl | exact gve (and_l hc) rfl | exact gve (and_l (and_l hc)) rfl | rfl)) ?_
  refine s_gval rfl rfl rfl (by first | exact w_tt rfl | exact w_gt rfl) (fun hc => v_load rfl (by first | exact gve hc rfl | rfl) Tryz.underlying76 rfl sz76 (l := [.bool false, .string ByteArray.empty, .int .i64 0]) ((cx.row 0 rfl).sub 2 rfl) rfl) ?_
  refine s_gval rfl rfl rfl (by first | exact w_tt rfl | exact w_gt rfl) (fun hc => v_build bd76 rfl rfl) ?_
  refine s_gval rfl rfl rfl (by first | exact w_tt rfl | exact w_gt rfl) (fun hc => v_agg eqg76 nz76 rfl (by first | exact gve hc rfl | rfl) (by first | exact gve hc rfl | rfl)) ?_
  refine s_gval rfl rfl rfl (by first | exact w_ff rfl | exact w_gf rfl) (fun hc => v_and_g hc rfl rfl rfl rfl) ?_
  refine s_val rfl rfl (v_or rfl rfl rfl rfl) ?_
  refine s_val rfl rfl (v_move rfl rfl) ?_
  refine s_gval rfl rfl rfl (by first | exact w_ff rfl | exact w_gf rfl) (fun hc => v_move rfl (by first | exact gve hc rfl | exact gve (and_l hc) rfl | exact gve (and_l (and_l hc)) rfl | rfl)) ?_
  refine s_gval rfl rfl rfl (by first | exact w_ff rfl | exact w_gf rfl) (fun hc => v_cmp rfl (by first | exact gve hc rfl | exact gve (and_l hc) rfl | exact gve (and_l (and_l hc)) rfl | rfl) rfl rfl) ?_
  refine s_gval rfl rfl rfl (by first | exact w_ff rfl | exact w_gf rfl) (fun hc => v_move rfl (by first | exact gve hc rfl | exact gve (and_l hc) rfl | exact gve (and_l (and_l hc)) rfl | rfl)) ?_
  refine s_gval rfl rfl rfl (by first | exact w_tt rfl | exact w_gt rfl) (fun hc => v_fa fa83_3 rfl (by first | exact gve hc rfl | exact gve (and_l hc) rfl | exact gve (and_l (and_l hc)) rfl | rfl)) ?_
  refine s_gval rfl rfl rfl (by first | exact w_tt rfl | exact w_gt rfl) (fun hc => v_load rfl (by first | exact gve hc rfl | rfl) Tryz.underlying78 rfl sz78 (l := [.int .i64 0, .int .i64 0, .int .i64 0, .int .i64 0]) ((cx.row 0 rfl).sub 5 rfl) rfl) ?_
  refine s_gval rfl rfl rfl (by first | exact w_tt rfl | exact w_gt rfl) (fun hc => v_build bd78 rfl rfl) ?_
  refine s_gval rfl rfl rfl (by first | exact w_tt rfl | exact w_gt rfl) (fun hc => v_agg eqg78 nz78 rfl (by first | exact gve hc rfl | rfl) (by first | exact gve hc rfl | rfl)) ?_
  refine s_gval rfl rfl rfl (by first | exact w_ff rfl | exact w_gf rfl) (fun hc => v_and_g hc rfl rfl rfl rfl) ?_
  refine s_val rfl rfl (v_or rfl rfl rfl rfl) ?_
  refine s_val rfl rfl (v_move rfl rfl) ?_
  refine s_gval rfl rfl rfl (by first | exact w_ff rfl | exact w_gf rfl) (fun hc => v_move rfl (by first | exact gve hc rfl | exact gve (and_l hc) rfl | exact gve (and_l (and_l hc)) rfl | rfl)) ?_
  refine s_gval rfl rfl rfl (by first | exact w_ff rfl | exact w_gf rfl) (fun hc => v_cmp rfl (by first | exact gve hc rfl | exact gve (and_l hc) rfl | exact gve (and_l (and_l hc)) rfl | rfl) rfl rfl) ?_
  refine s_gval rfl rfl rfl (by first | exact w_ff rfl | exact w_gf rfl) (fun hc => v_move rfl (by first | exact gve hc rfl | exact gve (and_l hc) rfl | exact gve (and_l (and_l hc)) rfl | rfl)) ?_
  refine s_gval rfl rfl rfl (by first | exact w_tt rfl | exact w_gt rfl) (fun hc => v_fa fa83_4 rfl (by first | exact gve hc rfl | exact gve (and_l hc) rfl | exact gve (and_l (and_l hc)) rfl | rfl)) ?_
  refine s_gval rfl rfl rfl (by first | exact w_tt rfl | exact w_gt rfl) (fun hc => v_load1 rfl (by first | exact gve hc rfl | exact gve (and_l hc) rfl | exact gve (and_l (and_l hc)) rfl | rfl) Tryz.underlying9 rfl (cx.cell 0 rfl rfl)) ?_
  refine s_gval rfl rfl rfl (by first | exact w_tt rfl | exact w_gt rfl) (fun hc => v_strNe rfl (by first | exact gve hc rfl | exact gve (and_l hc) rfl | exact gve (and_l (and_l hc)) rfl | rfl) rfl) ?_
  refine s_gval rfl rfl rfl (by first | exact w_ff rfl | exact w_gf rfl) (fun hc => v_and_g hc rfl rfl rfl rfl) ?_
  refine s_val rfl rfl (v_or rfl rfl rfl rfl) ?_
  refine s_val rfl rfl (v_move rfl rfl) ?_
  refine s_gval rfl rfl rfl (by first | exact w_ff rfl | exact w_gf rfl) (fun hc => v_move rfl (by first | exact gve hc rfl | exact gve (and_l hc) rfl | exact gve (and_l (and_l hc)) rfl | rfl)) ?_
  refine s_gval rfl rfl rfl (by first | exact w_ff rfl | exact w_gf rfl) (fun hc => v_cmp rfl (by first | exact gve hc rfl | exact gve (and_l hc) rfl | exact gve (and_l (and_l hc)) rfl | rfl) rfl rfl) ?_
  refine s_gval rfl rfl rfl (by first | exact w_ff rfl | exact w_gf rfl) (fun hc => v_move rfl (by first | exact gve hc rfl | exact gve (and_l hc) rfl | exact gve (and_l (and_l hc)) rfl | rfl)) ?_
  refine s_gval rfl rfl rfl (by first | exact w_tt rfl | exact w_gt rfl) (fun hc => v_fa fa83_5 rfl (by first | exact gve hc rfl | exact gve (and_l hc) rfl | exact gve (and_l (and_l hc)) rfl | rfl)) ?_
  refine s_gval rfl rfl rfl (by first | exact w_tt rfl | exact w_gt rfl) (fun hc => v_load1 rfl (by first | exact gve hc rfl | exact gve (and_l hc) rfl | exact gve (and_l (and_l hc)) rfl | rfl) Tryz.underlying79 rfl (cx.cell 0 rfl rfl)) ?_
  refine s_gval rfl rfl rfl (by first | exact w_tt rfl | exact w_gt rfl) (fun hc => v_lenSlice rfl (by first | exact gve hc rfl | exact gve (and_l hc) rfl | exact gve (and_l (and_l hc)) rfl | rfl) Tryz.underlying79) ?_
  refine s_gval rfl rfl rfl (by first | exact w_tt rfl | exact w_gt rfl) (fun hc => v_cmp rfl (by first | exact gve hc rfl | exact gve (and_l hc) rfl | exact gve (and_l (and_l hc)) rfl | rfl) rfl rfl) ?_
  refine s_gval rfl rfl rfl (by first | exact w_ff rfl | exact w_gf rfl) (fun hc => v_and_g hc rfl rfl rfl rfl) ?_
  refine s_val rfl rfl (v_or rfl rfl rfl rfl) ?_
  refine s_val rfl rfl (v_move rfl rfl) ?_
  refine s_gval rfl rfl rfl (by first | exact w_ff rfl | exact w_gf rfl) (fun hc => v_move rfl (by first | exact gve hc rfl | exact gve (and_l hc) rfl | exact gve (and_l (and_l hc)) rfl | rfl)) ?_
  refine s_gval rfl rfl rfl (by first | exact w_ff rfl | exact w_gf rfl) (fun hc => v_cmp rfl (by first | exact gve hc rfl | exact gve (and_l hc) rfl | exact gve (and_l (and_l hc)) rfl | rfl) rfl rfl) ?_
  refine s_gval rfl rfl rfl (by first | exact w_ff rfl | exact w_gf rfl) (fun hc => v_move rfl (by first | exact gve hc rfl | exact gve (and_l hc) rfl | exact gve (and_l (and_l hc)) rfl | rfl)) ?_
  refine s_gval rfl rfl rfl (by first | exact w_tt rfl | exact w_gt rfl) (fun hc => v_fa fa83_6 rfl (by first | exact gve hc rfl | exact gve (and_l hc) rfl | exact gve (and_l (and_l hc)) rfl | rfl)) ?_
  refine s_gval rfl rfl rfl (by first | exact w_tt rfl | exact w_gt rfl) (fun hc => v_load1 rfl (by first | exact gve hc rfl | exact gve (and_l hc) rfl | exact gve (and_l (and_l hc)) rfl | rfl) Tryz.underlying80 rfl (cx.cell 0 rfl rfl)) ?_
  refine s_gval rfl rfl rfl (by first | exact w_tt rfl | exact w_gt rfl) (fun hc => v_lenSlice rfl (by first | exact gve hc rfl | exact gve (and_l hc) rfl | exact gve (and_l (and_l hc)) rfl | rfl) Tryz.underlying80) ?_
  refine s_gval rfl rfl rfl (by first | exact w_tt rfl | exact w_gt rfl) (fun hc => v_cmp rfl (by first | exact gve hc rfl | exact gve (and_l hc) rfl | exact gve (and_l (and_l hc)) rfl | rfl) rfl rfl) ?_
  refine s_gval rfl rfl rfl (by first | exact w_ff rfl | exact w_gf rfl) (fun hc => v_and_g hc rfl rfl rfl rfl) ?_
  refine s_val rfl rfl (v_or rfl rfl rfl rfl) ?_
  refine s_val rfl rfl (v_move rfl rfl) ?_
  refine s_gval rfl rfl rfl (by first | exact w_ff rfl | exact w_gf rfl) (fun hc => v_move rfl (by first | exact gve hc rfl | exact gve (and_l hc) rfl | exact gve (and_l (and_l hc)) rfl | rfl)) ?_
  refine s_gval rfl rfl rfl (by first | exact w_ff rfl | exact w_gf rfl) (fun hc => v_cmp rfl (by first | exact gve hc rfl | exact gve (and_l hc) rfl | exact gve (and_l (and_l hc)) rfl | rfl) rfl rfl) ?_
  refine s_gval rfl rfl rfl (by first | exact w_ff rfl | exact w_gf rfl) (fun hc => v_move rfl (by first | exact gve hc rfl | exact gve (and_l hc) rfl | exact gve (and_l (and_l hc)) rfl | rfl)) ?_
  refine s_gval rfl rfl rfl (by first | exact w_tt rfl | exact w_gt rfl) (fun hc => v_fa fa83_7 rfl (by first | exact gve hc rfl | exact gve (and_l hc) rfl | exact gve (and_l (and_l hc)) rfl | rfl)) ?_
  refine s_gval rfl rfl rfl (by first | exact w_tt rfl | exact w_gt rfl) (fun hc => v_load1 rfl (by first | exact gve hc rfl | exact gve (and_l hc) rfl | exact gve (and_l (and_l hc)) rfl | rfl) Tryz.underlying81 rfl (cx.cell 0 rfl rfl)) ?_
  refine s_gval rfl rfl rfl (by first | exact w_tt rfl | exact w_gt rfl) (fun hc => v_lenSlice rfl (by first | exact gve hc rfl | exact gve (and_l hc) rfl | exact gve (and_l (and_l hc)) rfl | rfl) Tryz.underlying81) ?_
  refine s_gval rfl rfl rfl (by first | exact w_tt rfl | exact w_gt rfl) (fun hc => v_cmp rfl (by first | exact gve hc rfl | exact gve (and_l hc) rfl | exact gve (and_l (and_l hc)) rfl | rfl) rfl rfl) ?_
  refine s_gval rfl rfl rfl (by first | exact w_ff rfl | exact w_gf rfl) (fun hc => v_and_g hc rfl rfl rfl rfl) ?_
  refine s_val rfl rfl (v_or rfl rfl rfl rfl) ?_
  refine s_val rfl rfl (v_assign rfl rfl) ?_
  refine wpList_nil ?_
  refine wp_ret ?_
  refine ret_tmp Tryz.results217 rfl ?_
  exact ⟨cx.ext, _, rfl, rfl⟩
set_option maxHeartbeats 4000000 in
set_option maxRecDepth 10000 in
theorem c154 (c : ByteArray) (wb w0 : World) (b : Nat) (L : List (Nat × Obj)) (cx0 : Cxr wb w0 ((b, .cells ([.int .i64 0] : List Value).toArray 3) :: L) []) (hv : validD c.data.toList = true) (hc : c.size ≤ 1024) : Ret Tryz.prog 154 [.agg (leaf c).toArray, .int .i64 1, .pointer (some ⟨b, 0, none⟩)] w0 (fun v w' => v = .int .i64 0 ∧ Cxr wb w' ((b, .cells ([.int .i64 1] : List Value).toArray 3) :: L) []) := by
  refine ret_enter Tryz.func154 rfl Tryz.ntmps154 rfl ?_
  have cx := cx0
  refine wp_seq ?_
  refine wp_region_lit ?_
  refine s_box cx rfl rfl rfl rfl rfl ?_; intro b3 w cx hb3 hw3
  refine s_val rfl rfl (v_assign rfl rfl) ?_
  refine wpList_nil ?_
  refine wp_seq ?_
  refine wp_region_lit ?_
  refine s_val rfl rfl (v_move rfl rfl) ?_
  refine s_val rfl rfl (v_nilCk rfl rfl) ?_
  refine s_val rfl rfl (v_load1 rfl rfl Tryz.underlying3 rfl (cx.cell 1 rfl rfl)) ?_
  refine s_val rfl rfl (v_add rfl rfl rfl (by omega) (by omega)) ?_
  refine s_val rfl rfl (v_nilCk rfl rfl) ?_
  refine s_store1 (v := .int .i64 1) cx 1 rfl rfl rfl rfl rfl rfl rfl rfl sz3 ?_; intro w cx hwS1
  refine wpList_nil ?_
  refine wp_seq ?_
  refine wp_block ?_
  refine wp_seq ?_
  refine wp_region_lit ?_
  refine s_val rfl rfl (v_move rfl rfl) ?_
  refine s_val rfl rfl (v_cmp rfl rfl rfl rfl) ?_
  refine s_val rfl rfl (v_assign rfl rfl) ?_
  refine wpList_nil ?_
  refine wp_cond_false (show (St _ _).eval _ = _ by rw [eval_St]; rfl) ?_
  refine wp_seq ?_
  refine wp_region_lit ?_
  refine s_val rfl rfl (v_move rfl rfl) ?_
  refine s_val rfl rfl (v_nilCk rfl rfl) ?_
  refine s_val rfl rfl (v_load1 rfl rfl Tryz.underlying3 rfl (cx.cell 1 rfl rfl)) ?_
  refine s_val rfl rfl (v_cmp rfl rfl rfl rfl) ?_
  refine s_val rfl rfl (v_assign rfl rfl) ?_
  refine wpList_nil ?_
  refine wp_cond_false (show (St _ _).eval _ = _ by rw [eval_St]; rfl) ?_
  refine wp_seq ?_
  refine wp_region_lit ?_
  refine s_val rfl rfl (v_fa fa83_0 rfl rfl) ?_
  refine s_val rfl rfl (v_load1 rfl rfl Tryz.underlying3 rfl (cx.cell 0 rfl rfl)) ?_
  refine s_val rfl rfl (v_cmp rfl rfl rfl rfl) ?_
  refine s_val rfl rfl (v_move rfl rfl) ?_
  refine s_gval rfl rfl rfl (by first | exact w_ff rfl | exact w_gf rfl) (fun hc => v_fa fa83_0 rfl (by first | exact gve hc rfl | exact gve (and_l hc) rfl | exact gve (and_l (and_l hc)) rfl | rfl)) ?_
  refine s_gval rfl rfl rfl (by first | exact w_ff rfl | exact w_gf rfl) (fun hc => v_load1 rfl (by first | exact gve hc rfl | exact gve (and_l hc) rfl | exact gve (and_l (and_l hc)) rfl | rfl) Tryz.underlying3 rfl (cx.cell 0 rfl rfl)) ?_
  refine s_gval rfl rfl rfl (by first | exact w_ff rfl | exact w_gf rfl) (fun hc => v_cmp rfl (by first | exact gve hc rfl | exact gve (and_l hc) rfl | exact gve (and_l (and_l hc)) rfl | rfl) rfl rfl) ?_
  refine s_val rfl rfl (v_or rfl rfl rfl rfl) ?_
  refine s_val rfl rfl (v_move rfl rfl) ?_
  refine s_gval rfl rfl rfl (by first | exact w_ff rfl | exact w_gf rfl) (fun hc => v_load rfl (by first | exact gve hc rfl | exact gve (and_l hc) rfl | exact gve (and_l (and_l hc)) rfl | rfl) Tryz.underlying83 rfl sz83 (cx.row 0 rfl) rfl) ?_
  refine s_gfnB cx rfl rfl rfl (by first | exact w_ff rfl | exact w_gf rfl) (fun hc => c217 c _) Tryz.func217 rfl rfl rfl (fun hc => (cons_eq (by first | exact gve hc rfl | exact gve (and_l hc) rfl | exact gve (and_l (and_l hc)) rfl | rfl) rfl)) ?_; intro q38 w cx hw38 hp38
  obtain rfl : q38 = false := hp38 (by first | rfl | decide | simp)
  refine s_val rfl rfl (v_or rfl rfl rfl rfl) ?_
  refine s_val rfl rfl (v_assign rfl rfl) ?_
  refine wpList_nil ?_
  refine wp_cond_false (show (St _ _).eval _ = _ by rw [eval_St]; rfl) ?_
  refine wp_seq ?_
  refine wp_region_lit ?_
  refine s_val rfl rfl (v_fa fa83_0 rfl rfl) ?_
  refine s_val rfl rfl (v_load1 rfl rfl Tryz.underlying3 rfl (cx.cell 0 rfl rfl)) ?_
  refine s_val rfl rfl (v_cmp rfl rfl rfl rfl) ?_
  refine s_val rfl rfl (v_move rfl rfl) ?_
  refine s_gval rfl rfl rfl (by first | exact w_tt rfl | exact w_gt rfl) (fun hc => v_fa fa83_2 rfl (by first | exact gve hc rfl | exact gve (and_l hc) rfl | exact gve (and_l (and_l hc)) rfl | rfl)) ?_
  refine s_gval rfl rfl rfl (by first | exact w_tt rfl | exact w_gt rfl) (fun hc => v_load rfl (by first | exact gve hc rfl | rfl) Tryz.underlying76 rfl sz76 (l := [.bool false, .string ByteArray.empty, .int .i64 0]) ((cx.row 0 rfl).sub 2 rfl) rfl) ?_
  refine s_gfnB cx rfl rfl rfl (by first | exact w_tt rfl | exact w_gt rfl) (fun hc => (absurd hc (by simp) : Fc _ _ _ _ (IsB fun _ => True))) Tryz.func218 rfl rfl rfl (fun hc => (cons_eq (by first | exact gve hc rfl | exact gve (and_l hc) rfl | exact gve (and_l (and_l hc)) rfl | rfl) rfl)) ?_; intro q47 w cx hw47 hp47
  refine s_gval rfl rfl rfl (by first | exact w_tt rfl | exact w_gt rfl) (fun hc => v_not rfl (by first | exact gve hc rfl | exact gve (and_l hc) rfl | exact gve (and_l (and_l hc)) rfl | rfl)) ?_
  refine s_val rfl rfl (v_and rfl rfl rfl rfl) ?_
  refine s_val rfl rfl (v_move rfl rfl) ?_
  refine s_gval rfl rfl rfl (by first | exact w_ff rfl | exact w_gf rfl) (fun hc => v_fa fa83_0 rfl (by first | exact gve hc rfl | exact gve (and_l hc) rfl | exact gve (and_l (and_l hc)) rfl | rfl)) ?_
  refine s_gval rfl rfl rfl (by first | exact w_ff rfl | exact w_gf rfl) (fun hc => v_load1 rfl (by first | exact gve hc rfl | exact gve (and_l hc) rfl | exact gve (and_l (and_l hc)) rfl | rfl) Tryz.underlying3 rfl (cx.cell 0 rfl rfl)) ?_
  refine s_gval rfl rfl rfl (by first | exact w_ff rfl | exact w_gf rfl) (fun hc => v_cmp rfl (by first | exact gve hc rfl | exact gve (and_l hc) rfl | exact gve (and_l (and_l hc)) rfl | rfl) rfl rfl) ?_
  refine s_gval rfl rfl rfl (by first | exact w_ff rfl | exact w_gf rfl) (fun hc => v_move rfl (by first | exact gve hc rfl | exact gve (and_l hc) rfl | exact gve (and_l (and_l hc)) rfl | rfl)) ?_
  refine s_gval rfl rfl rfl (by first | exact w_tt rfl | exact w_gt rfl) (fun hc => v_fa fa83_3 rfl (by first | exact gve hc rfl | exact gve (and_l hc) rfl | exact gve (and_l (and_l hc)) rfl | rfl)) ?_
  refine s_gval rfl rfl rfl (by first | exact w_tt rfl | exact w_gt rfl) (fun hc => v_load rfl (by first | exact gve hc rfl | rfl) Tryz.underlying78 rfl sz78 (l := [.int .i64 0, .int .i64 0, .int .i64 0, .int .i64 0]) ((cx.row 0 rfl).sub 5 rfl) rfl) ?_
  refine s_gfnB cx rfl rfl rfl (by first | exact w_tt rfl | exact w_gt rfl) (fun hc => (absurd hc (by simp) : Fc _ _ _ _ (IsB fun _ => True))) Tryz.func219 rfl rfl rfl (fun hc => (cons_eq (by first | exact gve hc rfl | exact gve (and_l hc) rfl | exact gve (and_l (and_l hc)) rfl | rfl) rfl)) ?_; intro q57 w cx hw57 hp57
  refine s_gval rfl rfl rfl (by first | exact w_tt rfl | exact w_gt rfl) (fun hc => v_not rfl (by first | exact gve hc rfl | exact gve (and_l hc) rfl | exact gve (and_l (and_l hc)) rfl | rfl)) ?_
  refine s_gval rfl rfl rfl (by first | exact w_ff rfl | exact w_gf rfl) (fun hc => v_and_g hc rfl rfl rfl rfl) ?_
  refine s_val rfl rfl (v_or rfl rfl rfl rfl) ?_
  refine s_val rfl rfl (v_assign rfl rfl) ?_
  refine wpList_nil ?_
  refine wp_cond_false (show (St _ _).eval _ = _ by rw [eval_St]; rfl) ?_
  refine wp_seq ?_
  refine wp_region_lit ?_
  refine s_val rfl rfl (v_fa fa83_0 rfl rfl) ?_
  refine s_val rfl rfl (v_load1 rfl rfl Tryz.underlying3 rfl (cx.cell 0 rfl rfl)) ?_
  refine s_val rfl rfl (v_cmp rfl rfl rfl rfl) ?_
  refine s_val rfl rfl (v_move rfl rfl) ?_
  refine s_gval rfl rfl rfl (by first | exact w_tt rfl | exact w_gt rfl) (fun hc => v_fa fa83_4 rfl (by first | exact gve hc rfl | exact gve (and_l hc) rfl | exact gve (and_l (and_l hc)) rfl | rfl)) ?_
  refine s_gval rfl rfl rfl (by first | exact w_tt rfl | exact w_gt rfl) (fun hc => v_load1 rfl (by first | exact gve hc rfl | exact gve (and_l hc) rfl | exact gve (and_l (and_l hc)) rfl | rfl) Tryz.underlying9 rfl (cx.cell 0 rfl rfl)) ?_
  refine s_gfnB cx rfl rfl rfl (by first | exact w_tt rfl | exact w_gt rfl) (fun hc => c92 c _ (by omega)) Tryz.func92 rfl rfl rfl (fun hc => (cons_eq (by first | exact gve hc rfl | exact gve (and_l hc) rfl | exact gve (and_l (and_l hc)) rfl | rfl) rfl)) ?_; intro q68 w cx hw68 hp68
  obtain rfl : q68 = true := (hp68 (by first | rfl | decide | simp)).trans hv
  refine s_gval rfl rfl rfl (by first | exact w_tt rfl | exact w_gt rfl) (fun hc => v_not rfl (by first | exact gve hc rfl | exact gve (and_l hc) rfl | exact gve (and_l (and_l hc)) rfl | rfl)) ?_
  refine s_val rfl rfl (v_and rfl rfl rfl rfl) ?_
  refine s_val rfl rfl (v_assign rfl rfl) ?_
  refine wpList_nil ?_
  refine wp_cond_false (show (St _ _).eval _ = _ by rw [eval_St]; rfl) ?_
  refine wp_seq ?_
  refine wp_region_lit ?_
  refine s_val rfl rfl (v_fa fa83_4 rfl rfl) ?_
  refine s_val rfl rfl (v_load1 rfl rfl Tryz.underlying9 rfl (cx.cell 0 rfl rfl)) ?_
  refine s_val rfl rfl (v_lenString rfl rfl Tryz.underlying9) ?_
  refine s_val rfl rfl (v_cmp rfl rfl rfl rfl) ?_
  refine s_val rfl rfl (v_move rfl rfl) ?_
  refine s_gval rfl rfl rfl (by first | exact w_ff rfl | exact w_gf rfl) (fun hc => v_fa fa83_5 rfl (by first | exact gve hc rfl | exact gve (and_l hc) rfl | exact gve (and_l (and_l hc)) rfl | rfl)) ?_
  refine s_gval rfl rfl rfl (by first | exact w_ff rfl | exact w_gf rfl) (fun hc => v_load1 rfl (by first | exact gve hc rfl | exact gve (and_l hc) rfl | exact gve (and_l (and_l hc)) rfl | rfl) Tryz.underlying79 rfl (cx.cell 0 rfl rfl)) ?_
  refine s_gval rfl rfl rfl (by first | exact w_ff rfl | exact w_gf rfl) (fun hc => v_lenSlice rfl (by first | exact gve hc rfl | exact gve (and_l hc) rfl | exact gve (and_l (and_l hc)) rfl | rfl) Tryz.underlying79) ?_
  refine s_gval rfl rfl rfl (by first | exact w_ff rfl | exact w_gf rfl) (fun hc => v_cmp rfl (by first | exact gve hc rfl | exact gve (and_l hc) rfl | exact gve (and_l (and_l hc)) rfl | rfl) rfl rfl) ?_
  refine s_val rfl rfl (v_or rfl rfl rfl rfl) ?_
  refine s_val rfl rfl (v_assign rfl rfl) ?_
  refine wpList_nil ?_
  refine c_split rfl (fun hc71 => ?_) (fun hc71 => ?_)
  · skip
    simp only [Bool.or_eq_true, decide_eq_true_eq] at hc71
    exfalso
    omega
  · skip
    try simp only [Bool.and_eq_true, Bool.or_eq_true, Bool.and_eq_false_iff, Bool.or_eq_false_iff, Bool.not_eq_true', Bool.not_eq_false', decide_eq_true_eq, decide_eq_false_iff_not, beq_iff_eq, beq_eq_false_iff_ne, bne_iff_ne, bne_eq_false_iff_eq, ne_eq, Classical.not_not] at hc71
    refine wp_skip ?_
    refine wp_seq ?_
    refine wp_seq ?_
    refine wp_region_lit ?_
    refine s_val rfl rfl (v_fa fa83_7 rfl rfl) ?_
    refine s_val rfl rfl (v_load1 rfl rfl Tryz.underlying81 rfl (cx.cell 0 rfl rfl)) ?_
    refine s_fn cx (call_of pkys_k _) Tryz.func220 rfl rfl rfl rfl rfl rfl ?_; intro q84 w cx hw84 hp84
    subst hp84
    refine s_val rfl rfl (v_assign rfl rfl) ?_
    refine wpList_nil ?_
    refine wp_seq ?_
    refine wp_region_lit ?_
    refine s_val rfl rfl (v_move rfl rfl) ?_
    refine s_val rfl rfl (v_cmp rfl rfl rfl rfl) ?_
    refine wpList_nil ?_
    refine wp_cond_false (show (St _ _).eval _ = _ by rw [eval_St]; rfl) ?_
    refine wp_skip ?_
    refine wp_seq ?_
    refine wp_seq ?_
    refine wp_region_lit ?_
    refine s_val rfl rfl (v_fa fa83_6 rfl rfl) ?_
    refine s_val rfl rfl (v_load1 rfl rfl Tryz.underlying80 rfl (cx.cell 0 rfl rfl)) ?_
    refine s_val rfl rfl (v_lenSlice rfl rfl Tryz.underlying80) ?_
    refine s_val rfl rfl (v_move rfl rfl) ?_
    refine wpList_nil ?_
    refine wp_block ?_
    refine w_loop (fun k f w1 => ∃ b3, f 3 = .pointer (some ⟨b3, 0, none⟩) ∧ f 90 = .int .i64 0 ∧ f 91 = .int .i64 0 ∧ Cxr wb w1 ((b3, .cells (leaf c).toArray 83) :: (b, .cells ([.int .i64 1] : List Value).toArray 3) :: L) []) (0) ?_ ?_
    · skip
      exact ⟨_, rfl, rfl, rfl, cx⟩
    intro gk18 f w hJ
    obtain ⟨b3, hs3, hs90, hs91, cx⟩ := hJ
    refine wp_seq ?_
    refine wp_region_lit ?_
    refine s_val rfl rfl (v_cmp rfl hs91 hs90 rfl) ?_
    refine wpList_nil ?_
    refine wp_seq ?_
    refine wp_cond_false (show (St _ _).eval _ = _ by rw [eval_St]; rfl) ?_
    refine wp_exit ?_
    refine wp_seq ?_
    refine wp_seq ?_
    refine wp_region_lit ?_
    refine s_val rfl rfl (v_fa fa83_7 rfl hs3) ?_
    refine s_val rfl rfl (v_load1 rfl rfl Tryz.underlying81 rfl (cx.cell 0 rfl rfl)) ?_
    refine s_val rfl rfl (v_lenSlice rfl rfl Tryz.underlying81) ?_
    refine s_val rfl rfl (v_move rfl rfl) ?_
    refine wpList_nil ?_
    refine wp_block ?_
    refine w_loop (fun k f w1 => ∃ b3, f 3 = .pointer (some ⟨b3, 0, none⟩) ∧ f 106 = .int .i64 0 ∧ f 107 = .int .i64 0 ∧ Cxr wb w1 ((b3, .cells (leaf c).toArray 83) :: (b, .cells ([.int .i64 1] : List Value).toArray 3) :: L) []) (0) ?_ ?_
    · skip
      exact ⟨_, hs3, rfl, rfl, cx⟩
    intro gk25 f w hJ
    obtain ⟨b3, hs3, hs106, hs107, cx⟩ := hJ
    refine wp_seq ?_
    refine wp_region_lit ?_
    refine s_val rfl rfl (v_cmp rfl hs107 hs106 rfl) ?_
    refine wpList_nil ?_
    refine wp_seq ?_
    refine wp_cond_false (show (St _ _).eval _ = _ by rw [eval_St]; rfl) ?_
    refine wp_exit ?_
    refine wp_seq ?_
    refine wp_region_lit ?_
    refine s_val rfl rfl (v_assign rfl rfl) ?_
    refine wpList_nil ?_
    refine wp_ret ?_
    refine ret_tmp Tryz.results154 rfl ?_
    exact ⟨rfl, cx.drop 1⟩
set_option maxHeartbeats 4000000 in
set_option maxRecDepth 10000 in
theorem c97 (c : ByteArray) (w0 : World) (hv : validD c.data.toList = true) (hc : c.size ≤ 1024) : Fc Tryz.prog 97 [.agg (leaf c).toArray] w0 (IsI fun m => m = 0) := by
  refine ret_enter Tryz.func97 rfl Tryz.ntmps97 rfl ?_
  have cx := Ctx.start w0
  refine wp_seq ?_
  refine wp_region_lit ?_
  refine s_box cx rfl rfl rfl rfl rfl ?_; intro b1 w cx hb1 hw1
  refine s_val rfl rfl (v_assign rfl rfl) ?_
  refine wpList_nil ?_
  refine wp_seq ?_
  refine wp_region_lit ?_
  refine s_alloc cx z3 rfl rfl rfl ?_; intro b3 w cx hb3 hw3
  refine s_store1 (v := .int .i64 0) cx 0 rfl rfl rfl rfl rfl rfl rfl rfl sz3 ?_; intro w cx hwS1
  refine wpList_nil ?_
  refine wp_seq ?_
  refine wp_region_lit ?_
  refine s_val rfl rfl (v_load rfl rfl Tryz.underlying83 rfl sz83 (cx.row 1 rfl) rfl) ?_
  refine s_call (c154 c _ _ _ _ cx hv hc) Tryz.func154 rfl rfl rfl rfl rfl rfl ?_; rintro v5 w ⟨rfl, cx⟩
  refine s_val rfl rfl (v_assign rfl rfl) ?_
  refine wpList_nil ?_
  refine wp_ret ?_
  refine ret_tmp Tryz.results97 rfl ?_
  exact ⟨cx.ext, _, rfl, rfl⟩
set_option maxHeartbeats 4000000 in
set_option maxRecDepth 10000 in
theorem c304 (c : ByteArray) (w0 : World) : Fc Tryz.prog 304 [.agg (leaf c).toArray, .int .i64 65536] w0 (fun v _ => v = .agg (leaf c).toArray) := by
  refine ret_enter Tryz.func304 rfl Tryz.ntmps304 rfl ?_
  have cx := Ctx.start w0
  refine wp_seq ?_
  refine wp_region_lit ?_
  refine s_box cx rfl rfl rfl rfl rfl ?_; intro b2 w cx hb2 hw2
  refine s_alloc cx z83 rfl rfl rfl ?_; intro b4 w cx hb4 hw4
  refine wpList_nil ?_
  refine wp_seq ?_
  refine wp_region_lit ?_
  refine s_val rfl rfl (v_fa fa83_5 rfl rfl) ?_
  refine s_val rfl rfl (v_load1 rfl rfl Tryz.underlying79 rfl (cx.cell 1 rfl rfl)) ?_
  refine s_fn cx (call_of clb_k _) Tryz.func369 rfl rfl rfl rfl rfl rfl ?_; intro q13 w cx hw13 hp13
  subst hp13
  refine s_val rfl rfl (v_fa fa83_5 rfl rfl) ?_
  refine s_store1 (v := .slice none 0 0) cx 1 rfl rfl rfl rfl rfl rfl rfl rfl sz79 ?_; intro w cx hwS1
  refine wpList_nil ?_
  refine wp_seq ?_
  refine wp_seq ?_
  refine wp_region_lit ?_
  refine s_val rfl rfl (v_move rfl rfl) ?_
  refine s_val rfl rfl (v_cmp rfl rfl rfl rfl) ?_
  refine wpList_nil ?_
  refine wp_cond_false (show (St _ _).eval _ = _ by rw [eval_St]; rfl) ?_
  refine wp_skip ?_
  refine wp_seq ?_
  refine wp_region_lit ?_
  refine s_val rfl rfl (v_assign rfl rfl) ?_
  refine wpList_nil ?_
  refine wp_seq ?_
  refine wp_seq ?_
  refine wp_region_lit ?_
  refine s_val rfl rfl (v_fa fa83_6 rfl rfl) ?_
  refine s_val rfl rfl (v_load1 rfl rfl Tryz.underlying80 rfl (cx.cell 1 rfl rfl)) ?_
  refine s_val rfl rfl (v_lenSlice rfl rfl Tryz.underlying80) ?_
  refine s_val rfl rfl (v_move rfl rfl) ?_
  refine wpList_nil ?_
  refine wp_block ?_
  refine w_loop (fun k f w1 => ∃ b2 b4 : Nat, f 2 = .pointer (some ⟨b2, 0, none⟩) ∧ f 4 = .pointer (some ⟨b4, 0, none⟩) ∧ f 5 = .slice none 0 0 ∧ f 22 = .int .i64 0 ∧ f 23 = .int .i64 0 ∧ Ctx w0 w1 [(b4, .cells ([.int .i64 0, .bool false, .bool false, .string ByteArray.empty, .int .i64 0, .int .i64 0, .int .i64 0, .int .i64 0, .int .i64 0, .string ByteArray.empty, .slice none 0 0, .slice none 0 0, .slice none 0 0] : List Value).toArray 83), (b2, .cells (leaf c).toArray 83)]) (0) ?_ ?_
  · skip
    exact ⟨_, _, rfl, rfl, rfl, rfl, rfl, cx⟩
  intro gk7 f w hJ
  obtain ⟨b2, b4, hs2, hs4, hs5, hs22, hs23, cx⟩ := hJ
  refine wp_seq ?_
  refine wp_region_lit ?_
  refine s_val rfl rfl (v_cmp rfl hs23 hs22 rfl) ?_
  refine wpList_nil ?_
  refine wp_seq ?_
  refine wp_cond_false (show (St _ _).eval _ = _ by rw [eval_St]; rfl) ?_
  refine wp_exit ?_
  refine wp_seq ?_
  refine wp_region_lit ?_
  refine s_val rfl rfl (v_assign rfl rfl) ?_
  refine wpList_nil ?_
  refine wp_seq ?_
  refine wp_seq ?_
  refine wp_region_lit ?_
  refine s_val rfl rfl (v_fa fa83_7 rfl hs2) ?_
  refine s_val rfl rfl (v_load1 rfl rfl Tryz.underlying81 rfl (cx.cell 1 rfl rfl)) ?_
  refine s_val rfl rfl (v_lenSlice rfl rfl Tryz.underlying81) ?_
  refine s_val rfl rfl (v_move rfl rfl) ?_
  refine wpList_nil ?_
  refine wp_block ?_
  refine w_loop (fun k f w1 => ∃ b2 b4 : Nat, f 2 = .pointer (some ⟨b2, 0, none⟩) ∧ f 4 = .pointer (some ⟨b4, 0, none⟩) ∧ f 5 = .slice none 0 0 ∧ f 8 = .slice none 0 0 ∧ f 37 = .int .i64 0 ∧ f 38 = .int .i64 0 ∧ Ctx w0 w1 [(b4, .cells ([.int .i64 0, .bool false, .bool false, .string ByteArray.empty, .int .i64 0, .int .i64 0, .int .i64 0, .int .i64 0, .int .i64 0, .string ByteArray.empty, .slice none 0 0, .slice none 0 0, .slice none 0 0] : List Value).toArray 83), (b2, .cells (leaf c).toArray 83)]) (0) ?_ ?_
  · skip
    exact ⟨_, _, hs2, hs4, hs5, rfl, rfl, rfl, cx⟩
  intro gk13 f w hJ
  obtain ⟨b2, b4, hs2, hs4, hs5, hs8, hs37, hs38, cx⟩ := hJ
  refine wp_seq ?_
  refine wp_region_lit ?_
  refine s_val rfl rfl (v_cmp rfl hs38 hs37 rfl) ?_
  refine wpList_nil ?_
  refine wp_seq ?_
  refine wp_cond_false (show (St _ _).eval _ = _ by rw [eval_St]; rfl) ?_
  refine wp_exit ?_
  refine wp_seq ?_
  refine wp_region_lit ?_
  refine s_val rfl rfl (v_move rfl hs5) ?_
  refine s_val rfl rfl (v_move rfl hs8) ?_
  refine s_val rfl rfl (v_fa fa83_6 rfl hs2) ?_
  refine s_store1 (v := .slice none 0 0) cx 1 rfl rfl rfl rfl rfl rfl rfl rfl sz80 ?_; intro w cx hwS17
  refine s_val rfl rfl (v_fa fa83_7 rfl hs2) ?_
  refine s_store1 (v := .slice none 0 0) cx 1 rfl rfl rfl rfl rfl rfl rfl rfl sz81 ?_; intro w cx hwS17
  refine wpList_nil ?_
  refine wp_seq ?_
  refine wp_region_lit ?_
  refine s_val rfl rfl (v_load rfl hs2 Tryz.underlying83 rfl sz83 (cx.row 1 rfl) rfl) ?_
  refine s_storeAll cx 0 rfl rfl rfl hs4 rfl rfl sz83 rfl rfl ?_; intro w cx hwS18
  refine wpList_nil ?_
  refine wp_ret ?_
  refine ret_cell Tryz.results304 hs4 (cx.at 0 rfl) Tryz.underlying83 rfl sz83 ?_
  exact ⟨cx.ext, rfl⟩
set_option maxHeartbeats 4000000 in
set_option maxRecDepth 10000 in
theorem c227 (c : ByteArray) (w0 : World) : Fc Tryz.prog 227 [.agg (leaf c).toArray] w0 (fun v _ => v = .agg (leaf c).toArray) := by
  refine ret_enter Tryz.func227 rfl Tryz.ntmps227 rfl ?_
  have cx := Ctx.start w0
  refine wp_seq ?_
  refine wp_region_lit ?_
  refine s_box cx rfl rfl rfl rfl rfl ?_; intro b1 w cx hb1 hw1
  refine s_alloc cx z83 rfl rfl rfl ?_; intro b2 w cx hb2 hw2
  refine wpList_nil ?_
  refine wp_seq ?_
  refine wp_region_lit ?_
  refine s_val rfl rfl (v_load rfl rfl Tryz.underlying83 rfl sz83 (cx.row 1 rfl) rfl) ?_
  refine s_fn cx (c304 c _) Tryz.func304 rfl rfl rfl rfl rfl rfl ?_; intro q4 w cx hw4 hp4
  subst hp4
  refine s_storeAll cx 0 rfl rfl rfl rfl rfl rfl sz83 rfl rfl ?_; intro w cx hwS1
  refine wpList_nil ?_
  refine wp_ret ?_
  refine ret_cell Tryz.results227 rfl (cx.at 0 rfl) Tryz.underlying83 rfl sz83 ?_
  exact ⟨cx.ext, rfl⟩
set_option maxHeartbeats 4000000 in
set_option maxRecDepth 10000 in
theorem c303 (c : ByteArray) (w0 : World) : Fc Tryz.prog 303 [.agg (leaf c).toArray] w0 (fun v _ => v = .slice none 0 0) := by
  refine ret_enter Tryz.func303 rfl Tryz.ntmps303 rfl ?_
  have cx := Ctx.start w0
  refine wp_seq ?_
  refine wp_region_lit ?_
  refine s_box cx rfl rfl rfl rfl rfl ?_; intro b1 w cx hb1 hw1
  refine s_val rfl rfl (v_assign rfl rfl) ?_
  refine wpList_nil ?_
  refine wp_seq ?_
  refine wp_region_lit ?_
  refine s_val rfl rfl (v_fa fa83_7 rfl rfl) ?_
  refine s_val rfl rfl (v_load1 rfl rfl Tryz.underlying81 rfl (cx.cell 0 rfl rfl)) ?_
  refine s_fn cx (call_of clf_k _) Tryz.func365 rfl rfl rfl rfl rfl rfl ?_; intro q6 w cx hw6 hp6
  subst hp6
  refine s_val rfl rfl (v_assign rfl rfl) ?_
  refine wpList_nil ?_
  refine wp_seq ?_
  refine wp_region_lit ?_
  refine s_val rfl rfl (v_move rfl rfl) ?_
  refine s_fn cx (call_of srt_k _) Tryz.func366 rfl rfl rfl rfl rfl rfl ?_; intro q8 w cx hw8 hp8
  subst hp8
  refine wpList_nil ?_
  refine wp_seq ?_
  refine wp_region_lit ?_
  refine s_val rfl rfl (v_move rfl rfl) ?_
  refine s_val rfl rfl (v_assign rfl rfl) ?_
  refine wpList_nil ?_
  refine wp_ret ?_
  refine ret_tmp Tryz.results303 rfl ?_
  exact ⟨cx.ext, rfl⟩
set_option maxHeartbeats 4000000 in
set_option maxRecDepth 10000 in
theorem c226 (c : ByteArray) (w0 : World) : Fc Tryz.prog 226 [.agg (leaf c).toArray] w0 (fun v _ => v = .agg (leaf c).toArray) := by
  refine ret_enter Tryz.func226 rfl Tryz.ntmps226 rfl ?_
  have cx := Ctx.start w0
  refine wp_seq ?_
  refine wp_region_lit ?_
  refine s_box cx rfl rfl rfl rfl rfl ?_; intro b1 w cx hb1 hw1
  refine s_alloc cx z83 rfl rfl rfl ?_; intro b2 w cx hb2 hw2
  refine wpList_nil ?_
  refine wp_seq ?_
  refine wp_seq ?_
  refine wp_region_lit ?_
  refine s_val rfl rfl (v_fa fa83_6 rfl rfl) ?_
  refine s_val rfl rfl (v_load1 rfl rfl Tryz.underlying80 rfl (cx.cell 1 rfl rfl)) ?_
  refine s_val rfl rfl (v_lenSlice rfl rfl Tryz.underlying80) ?_
  refine s_val rfl rfl (v_move rfl rfl) ?_
  refine wpList_nil ?_
  refine wp_block ?_
  refine w_loop (fun k f w1 => ∃ b1 b2 : Nat, f 1 = .pointer (some ⟨b1, 0, none⟩) ∧ f 2 = .pointer (some ⟨b2, 0, none⟩) ∧ f 7 = .int .i64 0 ∧ f 8 = .int .i64 0 ∧ Ctx w0 w1 [(b2, .cells ([.int .i64 0, .bool false, .bool false, .string ByteArray.empty, .int .i64 0, .int .i64 0, .int .i64 0, .int .i64 0, .int .i64 0, .string ByteArray.empty, .slice none 0 0, .slice none 0 0, .slice none 0 0] : List Value).toArray 83), (b1, .cells (leaf c).toArray 83)]) (0) ?_ ?_
  · skip
    exact ⟨_, _, rfl, rfl, rfl, rfl, cx⟩
  intro gk2 f w hJ
  obtain ⟨b1, b2, hs1, hs2, hs7, hs8, cx⟩ := hJ
  refine wp_seq ?_
  refine wp_region_lit ?_
  refine s_val rfl rfl (v_cmp rfl hs8 hs7 rfl) ?_
  refine wpList_nil ?_
  refine wp_seq ?_
  refine wp_cond_false (show (St _ _).eval _ = _ by rw [eval_St]; rfl) ?_
  refine wp_exit ?_
  refine wp_seq ?_
  refine wp_region_lit ?_
  refine s_val rfl rfl (v_load rfl hs1 Tryz.underlying83 rfl sz83 (cx.row 1 rfl) rfl) ?_
  refine s_fn cx (c303 c _) Tryz.func303 rfl rfl rfl rfl rfl rfl ?_; intro q23 w cx hw23 hp23
  subst hp23
  refine s_val rfl rfl (v_fa fa83_7 rfl hs1) ?_
  refine s_store1 (v := .slice none 0 0) cx 1 rfl rfl rfl rfl rfl rfl rfl rfl sz81 ?_; intro w cx hwS6
  refine wpList_nil ?_
  refine wp_seq ?_
  refine wp_seq ?_
  refine wp_region_lit ?_
  refine s_val rfl rfl (v_fa fa83_7 rfl hs1) ?_
  refine s_val rfl rfl (v_load1 rfl rfl Tryz.underlying81 rfl (cx.cell 1 rfl rfl)) ?_
  refine s_val rfl rfl (v_lenSlice rfl rfl Tryz.underlying81) ?_
  refine s_val rfl rfl (v_move rfl rfl) ?_
  refine wpList_nil ?_
  refine wp_block ?_
  refine w_loop (fun k f w1 => ∃ b1 b2 : Nat, f 1 = .pointer (some ⟨b1, 0, none⟩) ∧ f 2 = .pointer (some ⟨b2, 0, none⟩) ∧ f 27 = .int .i64 0 ∧ f 28 = .int .i64 0 ∧ Ctx w0 w1 [(b2, .cells ([.int .i64 0, .bool false, .bool false, .string ByteArray.empty, .int .i64 0, .int .i64 0, .int .i64 0, .int .i64 0, .int .i64 0, .string ByteArray.empty, .slice none 0 0, .slice none 0 0, .slice none 0 0] : List Value).toArray 83), (b1, .cells (leaf c).toArray 83)]) (0) ?_ ?_
  · skip
    exact ⟨_, _, hs1, hs2, rfl, rfl, cx⟩
  intro gk8 f w hJ
  obtain ⟨b1, b2, hs1, hs2, hs27, hs28, cx⟩ := hJ
  refine wp_seq ?_
  refine wp_region_lit ?_
  refine s_val rfl rfl (v_cmp rfl hs28 hs27 rfl) ?_
  refine wpList_nil ?_
  refine wp_seq ?_
  refine wp_cond_false (show (St _ _).eval _ = _ by rw [eval_St]; rfl) ?_
  refine wp_exit ?_
  refine wp_seq ?_
  refine wp_region_lit ?_
  refine s_val rfl rfl (v_load rfl hs1 Tryz.underlying83 rfl sz83 (cx.row 1 rfl) rfl) ?_
  refine s_storeAll cx 0 rfl rfl rfl hs2 rfl rfl sz83 rfl rfl ?_; intro w cx hwS12
  refine wpList_nil ?_
  refine wp_ret ?_
  refine ret_cell Tryz.results226 hs2 (cx.at 0 rfl) Tryz.underlying83 rfl sz83 ?_
  exact ⟨cx.ext, rfl⟩
set_option maxHeartbeats 4000000 in
set_option maxRecDepth 10000 in
theorem c156 (c : ByteArray) (w0 : World) : Fc Tryz.prog 156 [.agg (leaf c).toArray] w0 (fun v _ => v = .agg (leaf c).toArray) := by
  refine ret_enter Tryz.func156 rfl Tryz.ntmps156 rfl ?_
  have cx := Ctx.start w0
  refine wp_seq ?_
  refine wp_region_lit ?_
  refine s_box cx rfl rfl rfl rfl rfl ?_; intro b1 w cx hb1 hw1
  refine s_alloc cx z83 rfl rfl rfl ?_; intro b2 w cx hb2 hw2
  refine wpList_nil ?_
  refine wp_seq ?_
  refine wp_region_lit ?_
  refine s_val rfl rfl (v_load rfl rfl Tryz.underlying83 rfl sz83 (cx.row 1 rfl) rfl) ?_
  refine s_fn cx (c227 c _) Tryz.func227 rfl rfl rfl rfl rfl rfl ?_; intro q4 w cx hw4 hp4
  subst hp4
  refine s_fn cx (c226 c _) Tryz.func226 rfl rfl rfl rfl rfl rfl ?_; intro q5 w cx hw5 hp5
  subst hp5
  refine s_storeAll cx 0 rfl rfl rfl rfl rfl rfl sz83 rfl rfl ?_; intro w cx hwS1
  refine wpList_nil ?_
  refine wp_ret ?_
  refine ret_cell Tryz.results156 rfl (cx.at 0 rfl) Tryz.underlying83 rfl sz83 ?_
  exact ⟨cx.ext, rfl⟩
end Go.Proofs.YthiafbkolhnadaaGreatDoor
end
section
namespace Go.Proofs
open Go.Shelf
def Tryz.lays169_ren : Go.Shelf.Ren := ⟨fun | 169 => 157 | n => n, fun | 70 => 243 | 9 => 9 | 0 => 0 | 72 => 245 | 37 => 79 | 127 => 312 | 3 => 3 | 5 => 5 | n => n, fun | n => n⟩
theorem Tryz.lays169 : Go.Proofs.Lays.n169 Tryz.prog Tryz.lays169_ren := {
  mixed := by kernel_rfl
  f169 := Tryz.func157.trans (congrArg some (by kernel_rfl))
  t0 := Tryz.underlying0
  a0 := Tryz.isAgg0
  z0 := Tryz.sizeOf0
  v0 := Tryz.zeroValue0
  t3 := Tryz.underlying3
  a3 := Tryz.isAgg3
  z3 := Tryz.sizeOf3
  v3 := Tryz.zeroValue3
  t9 := Tryz.underlying9
  a9 := Tryz.isAgg9
  z9 := Tryz.sizeOf9
  v9 := Tryz.zeroValue9
  t37 := Tryz.underlying79
  a37 := Tryz.isAgg79
  z37 := Tryz.sizeOf79
  v37 := Tryz.zeroValue79
  t70 := Tryz.underlying243
  a70 := Tryz.isAgg243
  z70 := Tryz.sizeOf243
  v70 := Tryz.zeroValue243
  t72 := Tryz.underlying245
  a72 := Tryz.isAgg245
  z72 := Tryz.sizeOf245
  v72 := Tryz.zeroValue245
  t127 := Tryz.underlying312
  a127 := Tryz.isAgg312
  z127 := Tryz.sizeOf312
  v127 := Tryz.zeroValue312 }
theorem Tryz.Builder_Extra_169 : Builder.Extra Tryz.prog Tryz.lays169_ren := {
  sizeBuilder := by kernel_rfl
  liesBuilder := by kernel_rfl
  t5 := Tryz.underlying5
  a5 := Tryz.isAgg5
  z5 := Tryz.sizeOf5
  v5 := Tryz.zeroValue5
  infoByte := by kernel_rfl
  cellsByte := by kernel_rfl
  sizeByte := by kernel_rfl
  neB5 := by decide }
def Tryz.lays103_ren : Go.Shelf.Ren := ⟨fun | 103 => 55 | 210 => 104 | 206 => 169 | n => n, fun | 9 => 9 | 4 => 4 | 24 => 113 | 3 => 3 | n => n, fun | n => n⟩
theorem Tryz.lays103 : Go.Proofs.Lays.n103 Tryz.prog Tryz.lays103_ren := {
  mixed := by kernel_rfl
  f103 := Tryz.func55.trans (congrArg some (by kernel_rfl))
  f206 := Tryz.func169.trans (congrArg some (by kernel_rfl))
  f210 := Tryz.func104.trans (congrArg some (by kernel_rfl))
  t3 := Tryz.underlying3
  a3 := Tryz.isAgg3
  z3 := Tryz.sizeOf3
  v3 := Tryz.zeroValue3
  t4 := Tryz.underlying4
  a4 := Tryz.isAgg4
  z4 := Tryz.sizeOf4
  v4 := Tryz.zeroValue4
  t9 := Tryz.underlying9
  a9 := Tryz.isAgg9
  z9 := Tryz.sizeOf9
  v9 := Tryz.zeroValue9
  t24 := Tryz.underlying113
  a24 := Tryz.isAgg113
  z24 := Tryz.sizeOf113
  v24 := Tryz.zeroValue113 }
open Go.RowKit in
theorem Tryz.strings_CutPrefix (s p : ByteArray) (w : World) :
    Calls Tryz.prog 55 #[.string s, .string p] w fun e w' => e = .returned (.tuple #[.string ⟨(Lib.trimPrefix s.data.toList p.data.toList).toArray⟩, .bool (Lib.hasPrefix s.data.toList p.data.toList)]) ∧ w' = w := Any.strings_CutPrefix Tryz.lays103 s p w
open Go.RowKit in
theorem Tryz.Builder_String_any_k (B b : Nat) (l : List UInt8) (w : World) (h : Lib.IsBuilderF 245 5 B b (Lib.byteCells l) w) (hBw : B ≤ w.heap.size) :
    Calls Tryz.prog 157 #[.pointer (some ⟨b, 0, none⟩)] w fun e w' => e = .returned (.string ⟨l.toArray⟩) ∧ (Lib.IsBuilderF 245 5 B b (Lib.byteCells l) w' ∧ Below B w w' ∧ Lib.OthersKept 5 (some b) w w') := Any.Builder_String_any_k Tryz.lays169 Tryz.Builder_Extra_169 B b l w h hBw
def Tryz.lays172_ren : Go.Shelf.Ren := ⟨fun | 172 => 106 | 244 => 171 | 245 => 172 | 247 => 243 | 279 => 244 | 280 => 245 | 281 => 246 | 282 => 247 | 287 => 317 | 316 => 318 | 171 => 47 | 205 => 319 | 321 => 374 | 322 => 375 | 243 => 96 | 246 => 153 | 283 => 213 | 284 => 214 | 285 => 215 | 286 => 216 | 129 => 290 | 317 => 289 | 318 => 291 | 319 => 292 | 320 => 293 | 337 => 356 | 338 => 357 | n => n, fun | 9 => 9 | 3 => 3 | 75 => 184 | 76 => 185 | 4 => 4 | 5 => 5 | 167 => 319 | 37 => 79 | 0 => 0 | 85 => 320 | 2 => 2 | 168 => 322 | 53 => 299 | 175 => 368 | 46 => 237 | 210 => 371 | 127 => 312 | 145 => 397 | 143 => 395 | 21 => 21 | 171 => 301 | 173 => 304 | 212 => 358 | 51 => 359 | 20 => 20 | 213 => 360 | 232 => 405 | 233 => 406 | 80 => 248 | n => n, fun | 15 => 4 | 16 => 5 | 17 => 2 | 18 => 6 | 19 => 7 | n => n⟩
theorem Tryz.lays172 : Go.Proofs.Lays.n172 Tryz.prog Tryz.lays172_ren := {
  mixed := by kernel_rfl
  f129 := Tryz.func290.trans (congrArg some (by kernel_rfl))
  f171 := Tryz.func47.trans (congrArg some (by kernel_rfl))
  f172 := Tryz.func106.trans (congrArg some (by kernel_rfl))
  f205 := Tryz.func319.trans (congrArg some (by kernel_rfl))
  f243 := Tryz.func96.trans (congrArg some (by kernel_rfl))
  f244 := Tryz.func171.trans (congrArg some (by kernel_rfl))
  f245 := Tryz.func172.trans (congrArg some (by kernel_rfl))
  f246 := Tryz.func153.trans (congrArg some (by kernel_rfl))
  f247 := Tryz.func243.trans (congrArg some (by kernel_rfl))
  f279 := Tryz.func244.trans (congrArg some (by kernel_rfl))
  f280 := Tryz.func245.trans (congrArg some (by kernel_rfl))
  f281 := Tryz.func246.trans (congrArg some (by kernel_rfl))
  f282 := Tryz.func247.trans (congrArg some (by kernel_rfl))
  f283 := Tryz.func213.trans (congrArg some (by kernel_rfl))
  f284 := Tryz.func214.trans (congrArg some (by kernel_rfl))
  f285 := Tryz.func215.trans (congrArg some (by kernel_rfl))
  f286 := Tryz.func216.trans (congrArg some (by kernel_rfl))
  f287 := Tryz.func317.trans (congrArg some (by kernel_rfl))
  f316 := Tryz.func318.trans (congrArg some (by kernel_rfl))
  f317 := Tryz.func289.trans (congrArg some (by kernel_rfl))
  f318 := Tryz.func291.trans (congrArg some (by kernel_rfl))
  f319 := Tryz.func292.trans (congrArg some (by kernel_rfl))
  f320 := Tryz.func293.trans (congrArg some (by kernel_rfl))
  f321 := Tryz.func374.trans (congrArg some (by kernel_rfl))
  f322 := Tryz.func375.trans (congrArg some (by kernel_rfl))
  f337 := Tryz.func356.trans (congrArg some (by kernel_rfl))
  f338 := Tryz.func357.trans (congrArg some (by kernel_rfl))
  t0 := Tryz.underlying0
  a0 := Tryz.isAgg0
  z0 := Tryz.sizeOf0
  v0 := Tryz.zeroValue0
  t2 := Tryz.underlying2
  a2 := Tryz.isAgg2
  z2 := Tryz.sizeOf2
  v2 := Tryz.zeroValue2
  t3 := Tryz.underlying3
  a3 := Tryz.isAgg3
  z3 := Tryz.sizeOf3
  v3 := Tryz.zeroValue3
  t4 := Tryz.underlying4
  a4 := Tryz.isAgg4
  z4 := Tryz.sizeOf4
  v4 := Tryz.zeroValue4
  t5 := Tryz.underlying5
  a5 := Tryz.isAgg5
  z5 := Tryz.sizeOf5
  v5 := Tryz.zeroValue5
  t9 := Tryz.underlying9
  a9 := Tryz.isAgg9
  z9 := Tryz.sizeOf9
  v9 := Tryz.zeroValue9
  t20 := Tryz.underlying20
  a20 := Tryz.isAgg20
  z20 := Tryz.sizeOf20
  v20 := Tryz.zeroValue20
  t21 := Tryz.underlying21
  a21 := Tryz.isAgg21
  z21 := Tryz.sizeOf21
  v21 := Tryz.zeroValue21
  t37 := Tryz.underlying79
  a37 := Tryz.isAgg79
  z37 := Tryz.sizeOf79
  v37 := Tryz.zeroValue79
  t46 := Tryz.underlying237
  a46 := Tryz.isAgg237
  z46 := Tryz.sizeOf237
  v46 := Tryz.zeroValue237
  t51 := Tryz.underlying359
  a51 := Tryz.isAgg359
  z51 := Tryz.sizeOf359
  v51 := Tryz.zeroValue359
  t53 := Tryz.underlying299
  a53 := Tryz.isAgg299
  z53 := Tryz.sizeOf299
  v53 := Tryz.zeroValue299
  t75 := Tryz.underlying184
  a75 := Tryz.isAgg184
  z75 := Tryz.sizeOf184
  v75 := Tryz.zeroValue184
  t76 := Tryz.underlying185
  a76 := Tryz.isAgg185
  z76 := Tryz.sizeOf185
  v76 := Tryz.zeroValue185
  t85 := Tryz.underlying320
  a85 := Tryz.isAgg320
  z85 := Tryz.sizeOf320
  v85 := Tryz.zeroValue320
  t127 := Tryz.underlying312
  a127 := Tryz.isAgg312
  z127 := Tryz.sizeOf312
  v127 := Tryz.zeroValue312
  t143 := Tryz.underlying395
  a143 := Tryz.isAgg395
  z143 := Tryz.sizeOf395
  v143 := Tryz.zeroValue395
  t145 := Tryz.underlying397
  a145 := Tryz.isAgg397
  z145 := Tryz.sizeOf397
  v145 := Tryz.zeroValue397
  t167 := Tryz.underlying319
  a167 := Tryz.isAgg319
  z167 := Tryz.sizeOf319
  v167 := Tryz.zeroValue319
  t168 := Tryz.underlying322
  a168 := Tryz.isAgg322
  z168 := Tryz.sizeOf322
  v168 := Tryz.zeroValue322
  t171 := Tryz.underlying301
  a171 := Tryz.isAgg301
  z171 := Tryz.sizeOf301
  v171 := Tryz.zeroValue301
  t173 := Tryz.underlying304
  a173 := Tryz.isAgg304
  z173 := Tryz.sizeOf304
  v173 := Tryz.zeroValue304
  t175 := Tryz.underlying368
  a175 := Tryz.isAgg368
  z175 := Tryz.sizeOf368
  v175 := Tryz.zeroValue368
  t210 := Tryz.underlying371
  a210 := Tryz.isAgg371
  z210 := Tryz.sizeOf371
  v210 := Tryz.zeroValue371
  t212 := Tryz.underlying358
  a212 := Tryz.isAgg358
  z212 := Tryz.sizeOf358
  v212 := Tryz.zeroValue358
  t213 := Tryz.underlying360
  a213 := Tryz.isAgg360
  z213 := Tryz.sizeOf360
  t232 := Tryz.underlying405
  a232 := Tryz.isAgg405
  z232 := Tryz.sizeOf405
  v232 := Tryz.zeroValue405
  t233 := Tryz.underlying406
  a233 := Tryz.isAgg406
  z233 := Tryz.sizeOf406
  v233 := Tryz.zeroValue406
  g15 := by kernel_rfl
  g16 := by kernel_rfl
  g17 := by kernel_rfl
  g18 := by kernel_rfl
  g19 := by kernel_rfl }
open Go.RowKit in
theorem Tryz.strconv_Atoi (s : ByteArray) (n : Int) (hl : s.size ≤ 18) (h : Lib.atoi s.data.toList = some n) (w : World) :
    Calls Tryz.prog 106 #[.string s] w fun e w' => e = .returned (.tuple #[.int .i64 n, .nilIface]) ∧ ∃ t, w' = Lib.bytesWorld w 5 t := Any.strconv_Atoi Tryz.lays172 s n hl h w
def Tryz.lays145_ren : Go.Shelf.Ren := ⟨fun | 145 => 105 | 220 => 170 | 219 => 242 | 217 => 313 | 225 => 314 | 224 => 315 | 267 => 316 | 266 => 372 | 314 => 373 | n => n, fun | 9 => 9 | 4 => 4 | 59 => 181 | 3 => 3 | 5 => 5 | 46 => 237 | 146 => 393 | 51 => 359 | n => n, fun | 1 => 3 | n => n⟩
theorem Tryz.lays145 : Go.Proofs.Lays.n145 Tryz.prog Tryz.lays145_ren := {
  mixed := by kernel_rfl
  f145 := Tryz.func105.trans (congrArg some (by kernel_rfl))
  f217 := Tryz.func313.trans (congrArg some (by kernel_rfl))
  f219 := Tryz.func242.trans (congrArg some (by kernel_rfl))
  f220 := Tryz.func170.trans (congrArg some (by kernel_rfl))
  f224 := Tryz.func315.trans (congrArg some (by kernel_rfl))
  f225 := Tryz.func314.trans (congrArg some (by kernel_rfl))
  f266 := Tryz.func372.trans (congrArg some (by kernel_rfl))
  f267 := Tryz.func316.trans (congrArg some (by kernel_rfl))
  f314 := Tryz.func373.trans (congrArg some (by kernel_rfl))
  t3 := Tryz.underlying3
  a3 := Tryz.isAgg3
  z3 := Tryz.sizeOf3
  v3 := Tryz.zeroValue3
  t4 := Tryz.underlying4
  a4 := Tryz.isAgg4
  z4 := Tryz.sizeOf4
  v4 := Tryz.zeroValue4
  t5 := Tryz.underlying5
  a5 := Tryz.isAgg5
  z5 := Tryz.sizeOf5
  v5 := Tryz.zeroValue5
  t9 := Tryz.underlying9
  a9 := Tryz.isAgg9
  z9 := Tryz.sizeOf9
  v9 := Tryz.zeroValue9
  t46 := Tryz.underlying237
  a46 := Tryz.isAgg237
  z46 := Tryz.sizeOf237
  v46 := Tryz.zeroValue237
  t51 := Tryz.underlying359
  a51 := Tryz.isAgg359
  z51 := Tryz.sizeOf359
  v51 := Tryz.zeroValue359
  t59 := Tryz.underlying181
  a59 := Tryz.isAgg181
  z59 := Tryz.sizeOf181
  v59 := Tryz.zeroValue181
  t146 := Tryz.underlying393
  a146 := Tryz.isAgg393
  z146 := Tryz.sizeOf393
  v146 := Tryz.zeroValue393
  g1 := by kernel_rfl }
open Go.RowKit Go.Lib in
theorem Tryz.strings_Cut (s sep : ByteArray) (m : Int) (w : World) (hs : s.size < 4294967281) (hm : w.cell? ⟨3, 0, none⟩ = some (.int .i64 m)) :
    Calls Tryz.prog 105 #[.string s, .string sep] w fun e w' => e = .returned (.tuple #[.string ⟨(Lib.cut s.data.toList sep.data.toList).1.toArray⟩, .string ⟨(Lib.cut s.data.toList sep.data.toList).2.1.toArray⟩, .bool (Lib.cut s.data.toList sep.data.toList).2.2]) ∧ ∃ n, w' = w.drewN n := Any.strings_Cut Tryz.lays145 s sep m w hs hm
def Tryz.lays146_ren : Go.Shelf.Ren := ⟨fun | 146 => 54 | 221 => 103 | 268 => 166 | 138 => 167 | 143 => 168 | 195 => 240 | 197 => 114 | 218 => 241 | 219 => 242 | 260 => 180 | 217 => 313 | 225 => 314 | 224 => 315 | 267 => 316 | 266 => 372 | 314 => 373 | n => n, fun | 9 => 9 | 31 => 33 | 3 => 3 | 4 => 4 | 0 => 0 | 105 => 199 | 21 => 21 | 5 => 5 | 46 => 237 | 119 => 233 | 139 => 236 | 138 => 235 | 146 => 393 | 51 => 359 | n => n, fun | 1 => 3 | 3 => 0 | 4 => 1 | n => n⟩
theorem Tryz.lays146 : Go.Proofs.Lays.n146 Tryz.prog Tryz.lays146_ren := {
  mixed := by kernel_rfl
  f138 := Tryz.func167.trans (congrArg some (by kernel_rfl))
  f143 := Tryz.func168.trans (congrArg some (by kernel_rfl))
  f146 := Tryz.func54.trans (congrArg some (by kernel_rfl))
  f195 := Tryz.func240.trans (congrArg some (by kernel_rfl))
  f197 := Tryz.func114.trans (congrArg some (by kernel_rfl))
  f217 := Tryz.func313.trans (congrArg some (by kernel_rfl))
  f218 := Tryz.func241.trans (congrArg some (by kernel_rfl))
  f219 := Tryz.func242.trans (congrArg some (by kernel_rfl))
  f221 := Tryz.func103.trans (congrArg some (by kernel_rfl))
  f224 := Tryz.func315.trans (congrArg some (by kernel_rfl))
  f225 := Tryz.func314.trans (congrArg some (by kernel_rfl))
  f260 := Tryz.func180.trans (congrArg some (by kernel_rfl))
  f266 := Tryz.func372.trans (congrArg some (by kernel_rfl))
  f267 := Tryz.func316.trans (congrArg some (by kernel_rfl))
  f268 := Tryz.func166.trans (congrArg some (by kernel_rfl))
  f314 := Tryz.func373.trans (congrArg some (by kernel_rfl))
  t0 := Tryz.underlying0
  a0 := Tryz.isAgg0
  z0 := Tryz.sizeOf0
  v0 := Tryz.zeroValue0
  t3 := Tryz.underlying3
  a3 := Tryz.isAgg3
  z3 := Tryz.sizeOf3
  v3 := Tryz.zeroValue3
  t4 := Tryz.underlying4
  a4 := Tryz.isAgg4
  z4 := Tryz.sizeOf4
  v4 := Tryz.zeroValue4
  t5 := Tryz.underlying5
  a5 := Tryz.isAgg5
  z5 := Tryz.sizeOf5
  v5 := Tryz.zeroValue5
  t9 := Tryz.underlying9
  a9 := Tryz.isAgg9
  z9 := Tryz.sizeOf9
  v9 := Tryz.zeroValue9
  t21 := Tryz.underlying21
  a21 := Tryz.isAgg21
  z21 := Tryz.sizeOf21
  v21 := Tryz.zeroValue21
  t31 := Tryz.underlying33
  a31 := Tryz.isAgg33
  z31 := Tryz.sizeOf33
  v31 := Tryz.zeroValue33
  t46 := Tryz.underlying237
  a46 := Tryz.isAgg237
  z46 := Tryz.sizeOf237
  v46 := Tryz.zeroValue237
  t51 := Tryz.underlying359
  a51 := Tryz.isAgg359
  z51 := Tryz.sizeOf359
  v51 := Tryz.zeroValue359
  t105 := Tryz.underlying199
  a105 := Tryz.isAgg199
  z105 := Tryz.sizeOf199
  v105 := Tryz.zeroValue199
  t119 := Tryz.underlying233
  a119 := Tryz.isAgg233
  z119 := Tryz.sizeOf233
  t138 := Tryz.underlying235
  a138 := Tryz.isAgg235
  z138 := Tryz.sizeOf235
  v138 := Tryz.zeroValue235
  t139 := Tryz.underlying236
  a139 := Tryz.isAgg236
  z139 := Tryz.sizeOf236
  v139 := Tryz.zeroValue236
  t146 := Tryz.underlying393
  a146 := Tryz.isAgg393
  z146 := Tryz.sizeOf393
  v146 := Tryz.zeroValue393
  g1 := by kernel_rfl
  g3 := by kernel_rfl
  g4 := by kernel_rfl }
open Go.RowKit Go.Lib in
theorem Tryz.strings_Split (s sep : ByteArray) (m : Int) (w : World) (hs : s.size < 4294967281) (hm : w.cell? ⟨3, 0, none⟩ = some (.int .i64 m)) (h1 : 1 ≤ sep.size) :
    Calls Tryz.prog 54 #[.string s, .string sep] w fun e w' =>
      e = .returned (.slice (some ⟨w.heap.size, 0, none⟩) (Lib.countB s sep + 1) (Lib.countB s sep + 1)) ∧ w' = w.alloc (.cells ((Lib.splitB sep 0 (Lib.countB s sep) s).map Value.string).toArray 9) := Any.strings_Split Tryz.lays146 (by kernel_rfl) s sep m w hs hm h1
end Go.Proofs
end
section
set_option linter.unusedSimpArgs false
set_option linter.unusedVariables false
namespace Go.Proofs.YthiafbkolhnadaaGreatDoor
open Go Go.Dk Go.RowKit Go.Lib
attribute [local irreducible] Go.wpList Go.Code.wp Go.bodyPost Go.wpStill Go.wpQuiet
def hxb : ByteArray := ⟨#[48, 49, 50, 51, 52, 53, 54, 55, 56, 57, 97, 98, 99, 100, 101, 102]⟩
theorem hx_hi {m : Int} (h0 : 0 ≤ m) (h1 : m < 256) : 0 ≤ shr .u8 m (Int.toNat 4) ∧ shr .u8 m (Int.toNat 4) < (16 : Int) ∧ UInt8.ofNat (byteAt hxb (shr .u8 m (Int.toNat 4))).toNat = hexd (m.toNat / 16) := by
  obtain ⟨n, rfl⟩ := Int.eq_ofNat_of_zero_le h0
  have : ∀ b : Fin 256, 0 ≤ shr .u8 (b.val : Int) (Int.toNat 4) ∧ shr .u8 (b.val : Int) (Int.toNat 4) < (16 : Int) ∧ UInt8.ofNat (byteAt hxb (shr .u8 (b.val : Int) (Int.toNat 4))).toNat = hexd (b.val / 16) := by decide +kernel
  exact this ⟨n, by omega⟩
theorem hx_lo {m : Int} (h0 : 0 ≤ m) (h1 : m < 256) : 0 ≤ bitOp .and .u8 m 15 ∧ bitOp .and .u8 m 15 < (16 : Int) ∧ UInt8.ofNat (byteAt hxb (bitOp .and .u8 m 15)).toNat = hexd (m.toNat % 16) := by
  obtain ⟨n, rfl⟩ := Int.eq_ofNat_of_zero_le h0
  have : ∀ b : Fin 256, 0 ≤ bitOp .and .u8 (b.val : Int) 15 ∧ bitOp .and .u8 (b.val : Int) 15 < (16 : Int) ∧ UInt8.ofNat (byteAt hxb (bitOp .and .u8 (b.val : Int) 15)).toNat = hexd (b.val % 16) := by decide +kernel
  exact this ⟨n, by omega⟩
theorem c302 (m : Int) (w : World) (h0 : 0 ≤ m) (h1 : m < 256) : Fc Tryz.prog 302 [.int .u8 m] w fun v _ => v = .int .u8 ((shq (UInt8.ofNat m.toNat)).toNat : Int) := of_allB shq_k m h0 h1 w
theorem shq_ne {c : UInt8} (h : ¬ (c.toNat : Int) = 0) : c ≠ 0 := fun e => h (by rw [e]; rfl)
theorem shq_e {c : UInt8} (h : (c.toNat : Int) = 0) : c = 0 := by
  have h1 : c.toNat = 0 := by omega
  exact UInt8.toNat_inj.1 (by rw [h1]; rfl)
theorem str_any {wb w : World} {b : Nat} {L : List (Nat × Obj)} {l : List UInt8} {a v : Value} (cx : Cxr wb w ((b, .cells ([a, v] : List Value).toArray 245) :: L) [⟨5, 1, v, l.length, l.map bv⟩]) (ha : a = .pointer none ∨ a = .pointer (some ⟨b, 0, none⟩)) : Ret Tryz.prog 157 [.pointer (some ⟨b, 0, none⟩)] w (fun u w' => u = .string (bs l) ∧ Below wb.heap.size wb w') := by
  have hrow := cx.rows _ (List.mem_cons_self ..)
  have hoff := cx.off _ (List.mem_cons_self ..)
  simp only at hrow hoff
  have hat : Lib.BuilderAtF 245 5 wb.heap.size b a (Lib.byteCells l) w := by
    refine ⟨cx.lo _ (List.mem_cons_self ..), v, cx.at 0 rfl, ?_, fun e => hoff b e (by simp)⟩
    have h1 := World.ownsRowF_of hrow
    have e : (Lib.byteCells l).length = l.length := Lib.byteCells_length l
    rw [e]
    exact h1
  have hb : Lib.IsBuilderF 245 5 wb.heap.size b (Lib.byteCells l) w := by
    rcases ha with rfl | rfl
    · exact .inl hat
    · exact .inr hat
  exact Calls.mono (Go.Proofs.Tryz.Builder_String_any_k wb.heap.size b l w hb cx.ext.size) fun e w' ⟨he, _, hb, _⟩ => ⟨_, he, rfl, cx.ext.trans hb⟩
set_option maxHeartbeats 4000000 in
set_option maxRecDepth 10000 in
theorem c223 (wb w0 : World) (b : Nat) (L : List (Nat × Obj)) (l : List UInt8) (s : ByteArray) (h : BCx 245 wb w0 b L l) (hl : l.length ≤ 1073741824) (hs : s.size ≤ 1048576) : Ret Tryz.prog 223 [.pointer (some ⟨b, 0, none⟩), .string s] w0 (fun u w' => u = .tuple #[] ∧ BCx 245 wb w' b L (l ++ cqt s)) := by
  refine ret_enter Tryz.func223 rfl Tryz.ntmps223 rfl ?_
  refine wp_seq ?_
  refine wp_region_lit ?_
  refine s_val rfl rfl (v_move rfl rfl) ?_
  refine s_call (c225 wb _ b L _ _ h (by omega) (by omega) (by (try simp only [List.length_append, List.length_cons, List.length_nil]); omega)) Tryz.func225 rfl rfl rfl rfl rfl rfl ?_; rintro q8 w ⟨rfl, h⟩
  refine wpList_nil ?_
  refine wp_seq ?_
  refine wp_seq ?_
  refine wp_region_lit ?_
  refine s_val rfl rfl (v_assign rfl rfl) ?_
  refine wpList_nil ?_
  refine wp_block ?_
  refine w_loop (fun k f w1 => ∃ i : Nat, k + i = s.size ∧ f 0 = .pointer (some ⟨b, 0, none⟩) ∧ f 1 = .string s ∧ f 4 = .int .i64 i ∧ BCx 245 wb w1 b L (l ++ (34 :: qtq (s.data.toList.take i)))) (s.size) ?_ ?_
  · skip
    exact ⟨0, by omega, rfl, rfl, rfl, h.eq (by simp [qtq])⟩
  intro gk2 f w hJ
  obtain ⟨i, hk, hs0, hs1, hs4, h⟩ := hJ
  have hlq := qtq_len (s.data.toList.take i)
  have hlt := List.length_take_le i s.data.toList
  have hls : s.data.toList.length = s.size := by simp
  have hhi := hx_hi (byteAt_lo s i) (byteAt_hi s i)
  have hlo2 := hx_lo (byteAt_lo s i) (byteAt_hi s i)
  refine wp_seq ?_
  refine wp_seq ?_
  refine wp_region_lit ?_
  refine s_val rfl rfl (v_move rfl hs4) ?_
  refine s_val rfl rfl (v_move rfl hs1) ?_
  refine s_val rfl rfl (v_lenString rfl rfl Tryz.underlying9) ?_
  refine s_val rfl rfl (v_cmp rfl rfl rfl rfl) ?_
  refine wpList_nil ?_
  refine c_split rfl (fun hc12 => ?_) (fun hc12 => ?_)
  · skip
    try simp only [Bool.and_eq_true, Bool.or_eq_true, Bool.and_eq_false_iff, Bool.or_eq_false_iff, Bool.not_eq_true', Bool.not_eq_false', decide_eq_true_eq, decide_eq_false_iff_not, beq_iff_eq, beq_eq_false_iff_ne, bne_iff_ne, bne_eq_false_iff_eq, ne_eq, Classical.not_not] at hc12
    refine wp_skip ?_
    refine wp_seq ?_
    refine wp_block ?_
    refine wp_seq ?_
    refine wp_region_lit ?_
    refine s_val rfl rfl (v_move rfl hs1) ?_
    refine s_val rfl rfl (v_move rfl hs4) ?_
    refine s_val rfl rfl (v_idxStr rfl rfl rfl Tryz.underlying9 (by omega) (by omega)) ?_
    refine s_val rfl rfl (v_assign rfl rfl) ?_
    refine wpList_nil ?_
    refine wp_seq ?_
    refine wp_region_lit ?_
    refine s_val rfl rfl (v_move rfl rfl) ?_
    refine s_call (c302 _ _ (byteAt_lo _ _) (byteAt_hi _ _)) Tryz.func302 rfl rfl rfl rfl rfl rfl ?_; rintro q19 w ⟨hb19, rfl⟩; replace h := h.call hb19
    refine s_val rfl rfl (v_assign rfl rfl) ?_
    refine wpList_nil ?_
    refine wp_block ?_
    refine wp_seq ?_
    refine wp_region_lit ?_
    refine s_val rfl rfl (v_move rfl rfl) ?_
    refine s_val rfl rfl (v_cmp rfl rfl rfl rfl) ?_
    refine s_val rfl rfl (v_assign rfl rfl) ?_
    refine wpList_nil ?_
    refine c_split rfl (fun hc23 => ?_) (fun hc23 => ?_)
    · skip
      try simp only [Bool.and_eq_true, Bool.or_eq_true, Bool.and_eq_false_iff, Bool.or_eq_false_iff, Bool.not_eq_true', Bool.not_eq_false', decide_eq_true_eq, decide_eq_false_iff_not, beq_iff_eq, beq_eq_false_iff_ne, bne_iff_ne, bne_eq_false_iff_eq, ne_eq, Classical.not_not] at hc23
      have hne := shq_ne hc23
      refine wp_seq ?_
      refine wp_region_lit ?_
      refine s_val rfl rfl (v_move rfl hs0) ?_
      refine s_call (c225 wb _ b L _ _ h (by omega) (by omega) (by (try simp only [List.length_append, List.length_cons, List.length_nil]); omega)) Tryz.func225 rfl rfl rfl rfl rfl rfl ?_; rintro q27 w ⟨rfl, h⟩
      refine wpList_nil ?_
      refine wp_region_lit ?_
      refine s_val rfl rfl (v_move rfl hs0) ?_
      refine s_val rfl rfl (v_move rfl rfl) ?_
      refine s_call (c225 wb _ b L _ _ h (by omega) (by have := (shq (UInt8.ofNat (byteAt s (i : Int)).toNat)).toNat_lt; omega) (by (try simp only [List.length_append, List.length_cons, List.length_nil]); omega)) Tryz.func225 rfl rfl rfl rfl rfl rfl ?_; rintro q30 w ⟨rfl, h⟩
      refine wpList_nil ?_
      refine wp_region_lit ?_
      refine s_val rfl rfl (v_move rfl hs4) ?_
      refine s_val rfl rfl (v_add rfl rfl rfl (by omega) (by omega)) ?_
      refine s_val rfl rfl (v_assign rfl rfl) ?_
      refine wpList_nil ?_
      have hq := qtq_take s i (by omega)
      have hb : s.data.toList.getD i 0 = UInt8.ofNat (byteAt s i).toNat := by unfold byteAt; rw [Int.toNat_natCast, Int.toNat_natCast]; exact UInt8.ofNat_toNat.symm
      refine ⟨gk2 - 1, _, by omega, rfl, i + 1, by omega, hs0, hs1, rfl, h.eq ?_⟩
      rw [hq, hb]
      unfold sgq
      rw [if_pos hne]
      simp only [Int.toNat_natCast, UInt8.ofNat_toNat, List.append_assoc, List.cons_append, List.nil_append]
      rfl
    · skip
      try simp only [Bool.and_eq_true, Bool.or_eq_true, Bool.and_eq_false_iff, Bool.or_eq_false_iff, Bool.not_eq_true', Bool.not_eq_false', decide_eq_true_eq, decide_eq_false_iff_not, beq_iff_eq, beq_eq_false_iff_ne, bne_iff_ne, bne_eq_false_iff_eq, ne_eq, Classical.not_not] at hc23
      have he0 := shq_e hc23
      refine wp_seq ?_
      refine wp_region_lit ?_
      refine s_val rfl rfl (v_move rfl rfl) ?_
      refine s_val rfl rfl (v_cmp rfl rfl rfl rfl) ?_
      refine s_val rfl rfl (v_assign rfl rfl) ?_
      refine wpList_nil ?_
      refine c_split rfl (fun hc31 => ?_) (fun hc31 => ?_)
      · skip
        try simp only [Bool.and_eq_true, Bool.or_eq_true, Bool.and_eq_false_iff, Bool.or_eq_false_iff, Bool.not_eq_true', Bool.not_eq_false', decide_eq_true_eq, decide_eq_false_iff_not, beq_iff_eq, beq_eq_false_iff_ne, bne_iff_ne, bne_eq_false_iff_eq, ne_eq, Classical.not_not] at hc31
        refine wp_seq ?_
        refine wp_region_lit ?_
        refine s_val rfl rfl (v_move rfl hs0) ?_
        refine s_call (c197 wb _ b L _ [92, 117, 48, 48] h (by (try simp only [List.length_append, List.length_cons, List.length_nil]); omega)) Tryz.func197 rfl rfl rfl rfl rfl rfl ?_; rintro q35 w ⟨⟨n35, rfl⟩, h⟩
        refine wpList_nil ?_
        refine wp_seq ?_
        refine wp_region_lit ?_
        refine s_val rfl rfl (v_move rfl hs0) ?_
        refine s_val rfl rfl (v_move rfl rfl) ?_
        refine s_val rfl rfl (v_shr rfl rfl rfl (by decide)) ?_
        refine s_val rfl rfl (v_idxStr (s := hxb) rfl rfl rfl Tryz.underlying9 hhi.1 hhi.2.1) ?_
        refine s_call (c225 wb _ b L _ _ h (byteAt_lo _ _) (byteAt_hi _ _) (by (try simp only [List.length_append, List.length_cons, List.length_nil]); omega)) Tryz.func225 rfl rfl rfl rfl rfl rfl ?_; rintro q40 w ⟨rfl, h⟩
        refine wpList_nil ?_
        refine wp_region_lit ?_
        refine s_val rfl rfl (v_move rfl hs0) ?_
        refine s_val rfl rfl (v_move rfl rfl) ?_
        refine s_val rfl rfl (v_band rfl rfl rfl) ?_
        refine s_val rfl rfl (v_idxStr (s := hxb) rfl rfl rfl Tryz.underlying9 hlo2.1 hlo2.2.1) ?_
        refine s_call (c225 wb _ b L _ _ h (byteAt_lo _ _) (byteAt_hi _ _) (by (try simp only [List.length_append, List.length_cons, List.length_nil]); omega)) Tryz.func225 rfl rfl rfl rfl rfl rfl ?_; rintro q45 w ⟨rfl, h⟩
        refine wpList_nil ?_
        refine wp_region_lit ?_
        refine s_val rfl rfl (v_move rfl hs4) ?_
        refine s_val rfl rfl (v_add rfl rfl rfl (by omega) (by omega)) ?_
        refine s_val rfl rfl (v_assign rfl rfl) ?_
        refine wpList_nil ?_
        have hq := qtq_take s i (by omega)
        have hb : s.data.toList.getD i 0 = UInt8.ofNat (byteAt s i).toNat := by unfold byteAt; rw [Int.toNat_natCast, Int.toNat_natCast]; exact UInt8.ofNat_toNat.symm
        refine ⟨gk2 - 1, _, by omega, rfl, i + 1, by omega, hs0, hs1, rfl, h.eq ?_⟩
        have hlo := byteAt_lo s i
        have hhi' := byteAt_hi s i
        have h32 : UInt8.ofNat (byteAt s i).toNat < 32 := by
          rw [UInt8.lt_iff_toNat_lt, u8t (by omega)]
          show (byteAt s i).toNat < 32
          omega
        rw [hq, hb]
        unfold sgq
        rw [if_neg (by rw [he0]; simp), if_pos h32, u8t (by omega), hhi.2.2, hlo2.2.2]
        simp only [List.append_assoc, List.cons_append, List.nil_append]
      · skip
        try simp only [Bool.and_eq_true, Bool.or_eq_true, Bool.and_eq_false_iff, Bool.or_eq_false_iff, Bool.not_eq_true', Bool.not_eq_false', decide_eq_true_eq, decide_eq_false_iff_not, beq_iff_eq, beq_eq_false_iff_ne, bne_iff_ne, bne_eq_false_iff_eq, ne_eq, Classical.not_not] at hc31
        refine wp_region_lit ?_
        refine s_val rfl rfl (v_move rfl hs0) ?_
        refine s_val rfl rfl (v_move rfl rfl) ?_
        refine s_call (c225 wb _ b L _ _ h (byteAt_lo _ _) (byteAt_hi _ _) (by (try simp only [List.length_append, List.length_cons, List.length_nil]); omega)) Tryz.func225 rfl rfl rfl rfl rfl rfl ?_; rintro q22 w ⟨rfl, h⟩
        refine wpList_nil ?_
        refine wp_region_lit ?_
        refine s_val rfl rfl (v_move rfl hs4) ?_
        refine s_val rfl rfl (v_add rfl rfl rfl (by omega) (by omega)) ?_
        refine s_val rfl rfl (v_assign rfl rfl) ?_
        refine wpList_nil ?_
        have hq := qtq_take s i (by omega)
        have hb : s.data.toList.getD i 0 = UInt8.ofNat (byteAt s i).toNat := by unfold byteAt; rw [Int.toNat_natCast, Int.toNat_natCast]; exact UInt8.ofNat_toNat.symm
        refine ⟨gk2 - 1, _, by omega, rfl, i + 1, by omega, hs0, hs1, rfl, h.eq ?_⟩
        have hlo := byteAt_lo s i
        have hhi' := byteAt_hi s i
        have h32 : ¬ UInt8.ofNat (byteAt s i).toNat < 32 := by
          rw [UInt8.lt_iff_toNat_lt, u8t (by omega)]
          show ¬ (byteAt s i).toNat < 32
          omega
        rw [hq, hb]
        unfold sgq
        rw [if_neg (by rw [he0]; simp), if_neg h32]
        simp only [List.append_assoc, List.cons_append, List.nil_append]
  · skip
    try simp only [Bool.and_eq_true, Bool.or_eq_true, Bool.and_eq_false_iff, Bool.or_eq_false_iff, Bool.not_eq_true', Bool.not_eq_false', decide_eq_true_eq, decide_eq_false_iff_not, beq_iff_eq, beq_eq_false_iff_ne, bne_iff_ne, bne_eq_false_iff_eq, ne_eq, Classical.not_not] at hc12
    refine wp_exit ?_
    refine wp_region_lit ?_
    refine s_val rfl rfl (v_move rfl hs0) ?_
    refine s_call (c225 wb _ b L _ _ h (by omega) (by omega) (by (try simp only [List.length_append, List.length_cons, List.length_nil]); omega)) Tryz.func225 rfl rfl rfl rfl rfl rfl ?_; rintro q47 w ⟨rfl, h⟩
    refine wpList_nil ?_
    refine ret_no (.inr rfl) Tryz.results223 ?_
    have hi : i = s.size := by omega
    subst hi
    rw [show s.data.toList.take s.size = s.data.toList from List.take_of_length_le (by simp)] at h
    refine ⟨rfl, h.eq ?_⟩
    unfold cqt
    simp
set_option maxHeartbeats 4000000 in
set_option maxRecDepth 10000 in
theorem c155 (wb w0 : World) (b : Nat) (L : List (Nat × Obj)) (l : List UInt8) (c : ByteArray) (h : BCx 245 wb w0 b L l) (hl : l.length ≤ 1073741824) (hc : c.size ≤ 1024) : Ret Tryz.prog 155 [.pointer (some ⟨b, 0, none⟩), .agg (leaf c).toArray] w0 (fun u w' => u = .tuple #[] ∧ BCx 245 wb w' b L (l ++ cqt c)) := by
  refine ret_enter Tryz.func155 rfl Tryz.ntmps155 rfl ?_
  obtain ⟨a, v, cx, ha⟩ := id h
  refine wp_seq ?_
  refine wp_region_lit ?_
  refine s_box cx rfl rfl rfl rfl rfl ?_; intro b3 w cx hb3 hw3; replace h := h.call hw3
  refine wpList_nil ?_
  refine wp_seq ?_
  refine wp_region_lit ?_
  refine s_val rfl rfl (v_fa fa83_0 rfl rfl) ?_
  refine s_val rfl rfl (v_load1 rfl rfl Tryz.underlying3 rfl (cx.cell 0 rfl rfl)) ?_
  refine wpList_nil ?_
  refine wp_block ?_
  refine wp_seq ?_
  refine wp_region_lit ?_
  refine s_val rfl rfl (v_cmp rfl rfl rfl rfl) ?_
  refine s_val rfl rfl (v_assign rfl rfl) ?_
  refine wpList_nil ?_
  refine wp_cond_false (show (St _ _).eval _ = _ by rw [eval_St]; rfl) ?_
  refine wp_seq ?_
  refine wp_region_lit ?_
  refine s_val rfl rfl (v_cmp rfl rfl rfl rfl) ?_
  refine s_val rfl rfl (v_assign rfl rfl) ?_
  refine wpList_nil ?_
  refine wp_cond_false (show (St _ _).eval _ = _ by rw [eval_St]; rfl) ?_
  refine wp_seq ?_
  refine wp_region_lit ?_
  refine s_val rfl rfl (v_cmp rfl rfl rfl rfl) ?_
  refine s_val rfl rfl (v_assign rfl rfl) ?_
  refine wpList_nil ?_
  refine wp_cond_false (show (St _ _).eval _ = _ by rw [eval_St]; rfl) ?_
  refine wp_seq ?_
  refine wp_region_lit ?_
  refine s_val rfl rfl (v_cmp rfl rfl rfl rfl) ?_
  refine s_val rfl rfl (v_assign rfl rfl) ?_
  refine wpList_nil ?_
  refine wp_cond_false (show (St _ _).eval _ = _ by rw [eval_St]; rfl) ?_
  refine wp_seq ?_
  refine wp_region_lit ?_
  refine s_val rfl rfl (v_cmp rfl rfl rfl rfl) ?_
  refine s_val rfl rfl (v_assign rfl rfl) ?_
  refine wpList_nil ?_
  refine wp_cond_true (show (St _ _).eval _ = _ by rw [eval_St]; rfl) ?_
  refine wp_region_lit ?_
  refine s_val rfl rfl (v_move rfl rfl) ?_
  refine s_val rfl rfl (v_fa fa83_4 rfl rfl) ?_
  refine s_val rfl rfl (v_load1 rfl rfl Tryz.underlying9 rfl (cx.cell 0 rfl rfl)) ?_
  refine s_call (c223 wb _ b L l c h hl (by omega)) Tryz.func223 rfl rfl rfl rfl rfl rfl ?_; rintro q43 w ⟨rfl, h⟩
  refine wpList_nil ?_
  refine ret_no (.inr rfl) Tryz.results155 ?_
  exact ⟨rfl, h⟩
set_option maxHeartbeats 4000000 in
set_option maxRecDepth 10000 in
theorem c98 (c : ByteArray) (w0 : World) (hc : c.size ≤ 1024) : Fc Tryz.prog 98 [.agg (leaf c).toArray] w0 (fun v _ => v = .string (bs (cqt c))) := by
  refine ret_enter Tryz.func98 rfl Tryz.ntmps98 rfl ?_
  have cx := Ctx.start w0
  refine wp_seq ?_
  refine wp_region_lit ?_
  refine s_box cx rfl rfl rfl rfl rfl ?_; intro b1 w cx hb1 hw1
  refine s_val rfl rfl (v_assign rfl rfl) ?_
  refine wpList_nil ?_
  refine wp_seq ?_
  refine wp_region_lit ?_
  refine s_alloc cx z245 rfl rfl rfl ?_; intro b3 w cx hb3 hw3
  refine wpList_nil ?_
  refine wp_seq ?_
  refine wp_region_lit ?_
  refine s_val rfl rfl (v_load rfl rfl Tryz.underlying83 rfl sz83 (cx.row 1 rfl) rfl) ?_
  refine s_fn cx (c156 c _) Tryz.func156 rfl rfl rfl rfl rfl rfl ?_; intro q5 w cx hw5 hp5
  subst hp5
  refine s_call (c155 w0 _ b3 _ [] c ⟨_, _, cx.nilRow 5 1, .inl rfl⟩ (by simp) hc) Tryz.func155 rfl rfl rfl rfl rfl rfl ?_; rintro q6 w ⟨rfl, hB6⟩; obtain ⟨a6, v6, cx, ha6⟩ := hB6
  refine wpList_nil ?_
  refine wp_seq ?_
  refine wp_region_lit ?_
  refine s_call (str_any cx ha6) Tryz.func157 rfl rfl rfl rfl rfl rfl ?_; rintro q7 w ⟨rfl, hB⟩
  refine s_val rfl rfl (v_assign rfl rfl) ?_
  refine wpList_nil ?_
  refine wp_ret ?_
  refine ret_tmp Tryz.results98 rfl ?_
  exact ⟨hB, rfl⟩
set_option maxHeartbeats 4000000 in
set_option maxRecDepth 10000 in
theorem c48 (c : ByteArray) (w0 : World) (hv : validD c.data.toList = true) (hc : c.size ≤ 1024) : Fc Tryz.prog 48 [.agg (leaf c).toArray] w0 (fun v _ => v = .tuple #[.string (bs (cqt c)), .int .i64 0]) := by
  refine ret_enter Tryz.func48 rfl Tryz.ntmps48 rfl ?_
  have cx := Ctx.start w0
  refine wp_seq ?_
  refine wp_region_lit ?_
  refine s_box cx rfl rfl rfl rfl rfl ?_; intro b1 w cx hb1 hw1
  refine s_val rfl rfl (v_assign rfl rfl) ?_
  refine s_val rfl rfl (v_assign rfl rfl) ?_
  refine wpList_nil ?_
  refine wp_seq ?_
  refine wp_seq ?_
  refine wp_region_lit ?_
  refine s_val rfl rfl (v_load rfl rfl Tryz.underlying83 rfl sz83 (cx.row 0 rfl) rfl) ?_
  refine s_fnI cx (c97 c _ hv hc) Tryz.func97 rfl rfl rfl rfl rfl rfl ?_; intro q6 w cx hw6 hp6
  subst hp6
  refine s_val rfl rfl (v_assign rfl rfl) ?_
  refine wpList_nil ?_
  refine wp_seq ?_
  refine wp_region_lit ?_
  refine s_val rfl rfl (v_move rfl rfl) ?_
  refine s_val rfl rfl (v_cmp rfl rfl rfl rfl) ?_
  refine wpList_nil ?_
  refine wp_cond_false (show (St _ _).eval _ = _ by rw [eval_St]; rfl) ?_
  refine wp_skip ?_
  refine wp_seq ?_
  refine wp_region_lit ?_
  refine s_val rfl rfl (v_load rfl rfl Tryz.underlying83 rfl sz83 (cx.row 0 rfl) rfl) ?_
  refine s_fn cx (c98 c _ hc) Tryz.func98 rfl rfl rfl rfl rfl rfl ?_; intro q11 w cx hw11 hp11
  subst hp11
  refine s_val rfl rfl (v_assign rfl rfl) ?_
  refine s_val rfl rfl (v_assign rfl rfl) ?_
  refine wpList_nil ?_
  refine wp_ret ?_
  refine ret_tmp2 Tryz.results48 rfl rfl ?_
  exact ⟨cx.ext, rfl⟩
end Go.Proofs.YthiafbkolhnadaaGreatDoor
end
section
set_option linter.unusedVariables false
namespace Go.Dk
open Go Go.RowKit Go.Lib
theorem run_storeCells_atB (P : Program) (g o : Nat) (t : TypeId) (fz : Nat × Nat) : ∀ (vs : List Value) (i : Nat) (cur : Array Value) (w : World), w.heap[g]? = some (.cells cur t fz) → (o + i + vs.length ≤ fz.1 ∨ fz.2 = 0) → o + i + vs.length ≤ cur.size → (∀ v ∈ vs, v.oneCell' = true) →
    (storeCells ⟨g, o, none⟩ vs i).run P w = .ok () (w.setRow g (cur.toList.take (o + i) ++ vs ++ cur.toList.drop (o + i + vs.length)).toArray)
  | [], i, cur, w, hg, _, _, _ => by
    simp only [storeCells, List.append_nil, List.length_nil, Nat.add_zero, List.take_append_drop, Array.toArray_toList]
    rw [setRow_self w g cur t fz hg]
    rfl
  | v :: rest, i, cur, w, hg, hfz, hl, h1 => by
    have hi : o + i < cur.size := by simp at hl; omega
    have hadd : (⟨g, o, none⟩ : Addr).add i = ⟨g, o + i, none⟩ := add_addr ..
    have hcell : w.cell? ⟨g, o + i, none⟩ = some cur[o + i] := by simp [World.cell?, hg, hi]
    have hfro : w.frozen? ⟨g, o + i, none⟩ = false := by
      obtain ⟨lo, hi'⟩ := fz
      simp only [World.frozen?, hg, Bool.and_eq_false_iff, decide_eq_false_iff_not]
      simp only [List.length_cons] at hfz
      omega
    have hst : (store ((⟨g, o, none⟩ : Addr).add i) v).run P w = .ok () (w.setRow g (cur.setIfInBounds (o + i) v)) := by
      rw [hadd, run_store P w _ v _ (h1 v (by simp)), hcell]
      simp [hfro, setCell_eq_setRow w g (o + i) cur t fz v hg]
    have ih := run_storeCells_atB P g o t fz rest (i + 1) (cur.setIfInBounds (o + i) v) (w.setRow g (cur.setIfInBounds (o + i) v)) (setRow_heap w g cur _ t _ hg) (by simp only [List.length_cons] at hfz; omega) (by simp at hl ⊢; omega) (fun x hx => h1 x (by simp [hx]))
    simp only [storeCells, Sem.run_bind, hst, Result.andThen_ok, ih, setRow_setRow]
    congr 3
    have e := list_seg_step cur.toList (o + i) v rest (by simp at hl ⊢; omega)
    simpa [Array.toList_setIfInBounds, Nat.add_assoc] using e
def Outs (cur : Array Value) (fz : Nat × Nat) (n cap : Nat) (l : List UInt8) : Prop := cur.size = cap ∧ n = l.length ∧ n ≤ cap ∧ cap ≤ maxLen ∧ cur.toList.take n = l.map bv ∧ (cap ≤ fz.1 ∨ fz.2 = 0)
theorem Outs.row {w0 w : World} {L : List (Nat × Obj)} {R : List Row} {g n cap : Nat} {cur : Array Value} {fz : Nat × Nat} {l : List UInt8} (cx : Cxr w0 w ((g, .cells cur 5 fz) :: L) R) (h : Outs cur fz n cap l) : RowAt w g 0 (l.map bv) := by
  intro j x hj
  obtain ⟨_, h2, _, _, h5, _⟩ := h
  rw [cell_of_row w g (0 + j) cur 5 fz (cx.at 0 rfl)]
  rw [← h5, List.getElem?_take] at hj
  split at hj
  · rw [Nat.zero_add]; simpa using hj
  · cases hj
theorem Cxr.addOwn {w0 w : World} {L : List (Nat × Obj)} {R : List Row} {b : Nat} {o : Obj} (h : Cxr w0 w L R) (hb : w.heap[b]? = some o) (hL : ∀ p ∈ L, p.1 ≠ b) (h0 : w0.heap.size ≤ b) (hR : ∀ r ∈ R, ∀ q, r.v.ownBlock = some q → q ≠ b) : Cxr w0 w ((b, o) :: L) R := by
  refine ⟨h.ext, ?_, ?_, ?_, h.rows, ?_, h.pw⟩
  · intro p hp
    rcases List.mem_cons.1 hp with rfl | hp
    · exact hb
    · exact h.own p hp
  · intro p hp
    rcases List.mem_cons.1 hp with rfl | hp
    · exact h0
    · exact h.lo p hp
  · rw [List.map_cons, List.nodup_cons]
    refine ⟨fun hm => ?_, h.nd⟩
    obtain ⟨p, hp, e⟩ := List.mem_map.1 hm
    exact hL p hp e
  · intro r hr k hk hm
    rw [List.map_cons, List.mem_cons] at hm
    rcases hm with e | hm
    · exact hR r hr k hk e
    · exact h.off r hr k hk hm
section
variable {P : Program} {ops : Array Oper} {Q : Exit → Act → World → Prop} {rest : List Oper} {o : Oper} {n : Nat} {f : Nat → Value} {w w0 : World} {L : List (Nat × Obj)} {R : List Row}
theorem s_s2b {d : Nat} {s t : TypeId} {x : Operand} {u : TypeDesc} {l : List UInt8} (cx : Cxr w0 w L R) (hl : l.length ≤ 140737488355328) (hs : P.underlying s = some u) (ht : P.underlying t = some (.slice 5)) (he : P.underlying 5 = some (.int .u8))
    (hg : o.guard = none) (hd : o.dst = some d) (ho : o.op = .convert s t x) (hx : ev n f x = .string (bs l))
    (h : ∀ g cur fz cap w', Cxr w0 w' ((g, .cells cur 5 fz) :: L) R → Outs cur fz l.length cap l → wpList P ops Q rest (St n (upd f d (.slice (some ⟨g, 0, none⟩) l.length cap))) w') : wpList P ops Q (o :: rest) (St n f) w := by
  have hrun := Lib.run_convert_string_bytes (P := P) w s t 5 (bs l) hs ht he
  rw [bs_size] at hrun
  have hge := grownCap_ge w l.length 0 5
  have hcm : grownCap w l.length 0 5 ≤ maxLen := grownCap_le_maxLen w l.length 0 5 (by unfold maxLen; omega)
  have hsz : (Lib.bytesCells w 5 (bs l)).size = grownCap w l.length 0 5 := by
    unfold Lib.bytesCells
    simp only [Array.size_append, Array.size_map, Array.size_replicate, bs_size]
    have : (bs l).data.size = l.length := by simp [bs]
    omega
  refine s_new (w' := Lib.bytesWorld w 5 (bs l)) (v := .slice (some ⟨w.heap.size, 0, none⟩) l.length (grownCap w l.length 0 5)) hg hd ?_ (h w.heap.size (Lib.bytesCells w 5 (bs l)) ((Lib.bytesCells w 5 (bs l)).size, (Lib.bytesCells w 5 (bs l)).size + 1) _ _ ?_ ⟨hsz, rfl, hge, hcm, ?_, .inl ?_⟩)
  · unfold execOp; rw [ho]; simp [hx, hrun]
  · have hb : Below w.heap.size w (Lib.bytesWorld w 5 (bs l)) := ⟨rfl, rfl, rfl, by rw [Lib.bytesWorld_size]; omega, fun j hj => Lib.bytesWorld_at_old w 5 (bs l) j hj⟩
    exact (cx.call hb).addOwn (Lib.bytesWorld_at_new w 5 (bs l)) (fun p hp => by have := cx.lt p hp; omega) cx.ext.size (fun r hr q hq => by have := ((cx.rows r hr).lt q hq).2; omega)
  · unfold Lib.bytesCells
    rw [Array.toList_append]
    have e : (Array.map (fun b : UInt8 => Value.int .u8 b.toNat) (bs l).data).toList = l.map bv := by simp [bs, bv]
    rw [e]
    have : (l.map bv).length = l.length := by simp
    rw [← this, List.take_left]
  · show grownCap w l.length 0 5 ≤ (Lib.bytesCells w 5 (bs l)).size
    rw [hsz]
    exact Nat.le_refl _
theorem s_appL {d : Nat} {t u : TypeId} {x y : Operand} {g m cap : Nat} {cur : Array Value} {fz : Nat × Nat} {l a : List UInt8} (cx : Cxr w0 w ((g, .cells cur 5 fz) :: L) R) (ho5 : Outs cur fz m cap l) (ei : EI8 P 5) (hl : m + a.length ≤ 140737488355328) (ht : P.underlying t = some (.slice 5)) (hu : P.underlying u = some .string)
    (hg : o.guard = none) (hd : o.dst = some d) (ho : o.op = .call { callee := .builtin .append, args := #[x, y], argTypes := #[t, u] }) (hs : ev n f x = .slice (some ⟨g, 0, none⟩) m cap) (hx : ev n f y = .string (bs a))
    (h : ∀ g cur fz cap w', Cxr w0 w' ((g, .cells cur 5 fz) :: L) R → Outs cur fz (m + a.length) cap (l ++ a) → wpList P ops Q rest (St n (upd f d (.slice (some ⟨g, 0, none⟩) (m + a.length) cap))) w') : wpList P ops Q (o :: rest) (St n f) w := by
  obtain ⟨i, hi, hz, hsz, hby⟩ := ei
  obtain ⟨h1, h2, h3, h4, h5, h6⟩ := ho5
  have hheap := cx.at 0 rfl
  have hsa : (bs a).size = a.length := bs_size a
  have hta : (strCells (bs a)).length = a.length := by rw [cells_bs]; simp
  by_cases hroom : m + a.length ≤ cap
  · have hf := run_firstCells_string (P := P) w 1 (bs a)
    rw [hsa] at hf
    have hst := run_storeCells_atB P g m 5 fz (strCells (bs a)) 0 cur w hheap (by rw [hta]; omega) (by rw [hta]; omega) (strCells_oneCell (bs a))
    simp only [Nat.add_zero, hta] at hst
    have hrun : (Builtin.append_ #[t, u] o.type #[.slice (some ⟨g, 0, none⟩) m cap, .string (bs a)]).run P w = .ok (.slice (some ⟨g, 0, none⟩) (m + a.length) cap) (w.setRow g (cur.toList.take m ++ strCells (bs a) ++ cur.toList.drop (m + a.length)).toArray) := by
      simp [Builtin.append_, run_underlying ht, run_underlying hu, sizeOf, typeInfo, hi, hsz, Builtin.lenOf, hsa, hroom, hf, Addr.add_lit, hst]
    refine s_new (w' := w.setRow g (cur.toList.take m ++ strCells (bs a) ++ cur.toList.drop (m + a.length)).toArray) (v := .slice (some ⟨g, 0, none⟩) (m + a.length) cap) hg hd ?_ (h g _ fz cap _ (cx.turn 0 rfl rfl rfl rfl (by simp) (setRow_heap w g cur _ 5 fz hheap) fun q _ hne => setRow_other w g q _ hne) ⟨?_, ?_, hroom, h4, ?_, h6⟩)
    · unfold execOp; rw [ho]
      simp [resolve, invoke, builtin, hs, hx, hrun, Result.andThen]
    · simp only [List.size_toArray, List.length_append, List.length_take, List.length_drop, Array.length_toList, hta]; omega
    · rw [h2, List.length_append]
    · have e : m + a.length = (cur.toList.take m ++ strCells (bs a)).length := by
        have hcl : cur.toList.length = cap := h1
        rw [List.length_append, List.length_take, hta, hcl]; omega
      show ((cur.toList.take m ++ strCells (bs a)) ++ cur.toList.drop (m + a.length)).take (m + a.length) = _
      conv => lhs; arg 1; rw [e]
      rw [List.take_left, h5, cells_bs, List.map_append]
  · have holds : ∀ j u, (l.map bv)[j]? = some u → w.cell? ((⟨g, 0, none⟩ : Addr).add j) = some u := fun j u hj => by
      rw [add_addr]
      exact Outs.row cx ⟨h1, h2, h3, h4, h5, h6⟩ j u hj
    have hr := run_append_grow_string (P := P) w t u o.type 5 i (.int .u8 0) ht hu hi hz ⟨g, 0, none⟩ m cap (l.map bv) (by rw [hsz, List.length_map, h2]; omega) holds (bs a) (by rw [hsa]; omega) (by rw [hsa]; omega) (by rw [hby, hsa]; exact growslice_fits (by omega) (by omega))
    rw [hsa] at hr
    have hge := grownCap_ge w (m + a.length) cap 5
    have hcm2 : grownCap w (m + a.length) cap 5 ≤ maxLen := grownCap_le_maxLen w (m + a.length) cap 5 (by unfold maxLen; omega)
    have hcx := (cx.drop 1).draw.alloc (.cells ((l.map bv).toArray ++ (strCells (bs a)).toArray ++ Builtin.zeroCells (Value.int IntKind.u8 0).cells (grownCap w (m + a.length) cap 5 - (m + a.length))) 5)
    refine s_new (w' := w.drew.alloc _) (v := .slice (some ⟨w.heap.size, 0, none⟩) (m + a.length) (grownCap w (m + a.length) cap 5)) hg hd ?_ (h w.heap.size _ (0, 0) _ _ hcx ⟨?_, ?_, hge, hcm2, ?_, .inr rfl⟩)
    · unfold execOp; rw [ho]
      simp [resolve, invoke, builtin, hs, hx, hr, Result.andThen]
    · have hz1 : (Value.int IntKind.u8 0).cells.size = 1 := rfl
      simp only [Array.size_append, List.size_toArray, size_zeroCells, hz1, List.length_map, hta]
      omega
    · rw [h2, List.length_append]
    · have e : m + a.length = ((l.map bv) ++ strCells (bs a)).length := by rw [List.length_append, List.length_map, hta, h2]
      simp only [Array.toList_append]
      conv => lhs; arg 1; rw [e]
      rw [List.take_left, cells_bs, List.map_append]
end
end Go.Dk
end
section
set_option linter.unusedVariables false
namespace Go.Dk
open Go Go.RowKit Go.Lib
theorem bs_inj {a b : List UInt8} (h : bs a = bs b) : a = b := by
  have := congrArg (fun s : ByteArray => s.data.toList) h
  simpa [bs] using this
theorem bs_iff {a b : List UInt8} : bs a = bs b ↔ a = b := ⟨bs_inj, congrArg bs⟩
theorem bs_extract (l : List UInt8) (m n : Nat) : (bs l).extract m n = bs ((l.take n).drop m) := by
  unfold bs
  have e : ∀ a : Array UInt8, (ByteArray.mk a).extract m n = ⟨a.extract m n⟩ := fun a => by
    apply ByteArray.ext
    simp
  rw [e]
  congr 1
  apply Array.toList_inj.1
  simp [List.drop_take]
theorem bs_data (l : List UInt8) : (bs l).data.toList = l := rfl
theorem byteAt_bs (l : List UInt8) (m : Int) : byteAt (bs l) m = ((l.getD m.toNat 0).toNat : Int) := rfl
section
variable {P : Program} {ops : Array Oper} {Q : Exit → Act → World → Prop} {rest : List Oper} {o : Oper} {n : Nat} {f : Nat → Value} {w w0 : World} {L : List (Nat × Obj)} {R : List Row} {ρ : Operand → Value}
theorem v_cutTo {t : TypeId} {x z : Operand} {s : List UInt8} {k : IntKind} {l : Int} (ho : o.op = .slice t x none (some z) none) (hx : ρ x = .string (bs s)) (hz : ρ z = .int k l) (hu : P.underlying t = some .string) (h1 : 0 ≤ l) (h2 : l ≤ s.length) :
    (execOp ρ o).run P w = .ok (.value (.string (bs (s.take l.toNat)))) w := by
  unfold execOp; rw [ho]
  have h3 : l ≤ (bs s).size := by rw [bs_size]; exact h2
  have e := bs_extract s 0 l.toNat
  rw [List.drop_zero] at e
  rw [← e]
  simp [hx, hz, Instr.sliceAt, Instr.slice, Instr.sliceBounds, Instr.sliceBound, asIntOf, run_underlying hu, h1, h3]
theorem v_cutFrom {t : TypeId} {x y : Operand} {s : List UInt8} {k : IntKind} {m : Int} (ho : o.op = .slice t x (some y) none none) (hx : ρ x = .string (bs s)) (hy : ρ y = .int k m) (hu : P.underlying t = some .string) (h1 : 0 ≤ m) (h2 : m ≤ s.length) :
    (execOp ρ o).run P w = .ok (.value (.string (bs (s.drop m.toNat)))) w := by
  unfold execOp; rw [ho]
  have h3 : m ≤ (bs s).size := by rw [bs_size]; exact h2
  have h4 : (0 : Int) ≤ (bs s).size := by omega
  have e := bs_extract s m.toNat (bs s).size
  rw [show s.take (bs s).size = s by rw [bs_size, List.take_length]] at e
  rw [← e]
  simp [hx, hy, Instr.sliceAt, Instr.slice, Instr.sliceBounds, Instr.sliceBound, asIntOf, run_underlying hu, h1, h3, h4]
theorem v_cutMid {t : TypeId} {x y z : Operand} {s : List UInt8} {k k' : IntKind} {m l : Int} (ho : o.op = .slice t x (some y) (some z) none) (hx : ρ x = .string (bs s)) (hy : ρ y = .int k m) (hz : ρ z = .int k' l) (hu : P.underlying t = some .string) (h0 : 0 ≤ m) (h1 : m ≤ l) (h2 : l ≤ s.length) :
    (execOp ρ o).run P w = .ok (.value (.string (bs ((s.take l.toNat).drop m.toNat)))) w := by
  rw [← bs_extract]
  exact v_subStr ho hx hy hz hu h0 h1 (by rw [bs_size]; exact h2)
theorem v_idxB {t : TypeId} {x y : Operand} {s : List UInt8} {k : IntKind} {m : Int} (ho : o.op = .index t x y) (hx : ρ x = .string (bs s)) (hy : ρ y = .int k m) (hu : P.underlying t = some .string) (h0 : 0 ≤ m) (h1 : m < s.length) :
    (execOp ρ o).run P w = .ok (.value (.int .u8 ((s.getD m.toNat 0).toNat : Nat))) w := by
  have := v_idxStr (w := w) ho hx hy hu h0 (by rw [bs_size]; exact h1)
  rw [byteAt_bs] at this
  exact this
theorem v_lenB {x : Operand} {t : TypeId} {s : List UInt8} (ho : o.op = .call { callee := .builtin .len, args := #[x], argTypes := #[t] }) (hx : ρ x = .string (bs s)) (hu : P.underlying t = some .string) :
    (execOp ρ o).run P w = .ok (.value (.int .i64 s.length)) w := by
  have := v_lenString (w := w) ho hx hu
  rw [bs_size] at this
  exact this
theorem v_eqB {t t' : TypeId} {x y : Operand} {s u : List UInt8} (ho : o.op = .binOp .eql t x y t') (hx : ρ x = .string (bs s)) (hy : ρ y = .string (bs u)) :
    (execOp ρ o).run P w = .ok (.value (.bool (decide (s = u)))) w := by
  have := v_strEq (P := P) (w := w) ho hx hy
  rw [this]
  congr 4
  exact propext bs_iff
theorem v_neB {t t' : TypeId} {x y : Operand} {s u : List UInt8} (ho : o.op = .binOp .neq t x y t') (hx : ρ x = .string (bs s)) (hy : ρ y = .string (bs u)) :
    (execOp ρ o).run P w = .ok (.value (.bool (!decide (s = u)))) w := by
  have := v_strNe (P := P) (w := w) ho hx hy
  rw [this]
  congr 5
  exact propext bs_iff
theorem v_fun1 {k : Nat} {x : Operand} {v : Value} (ho : o.op = .makeFunc (.func k) #[] #[x]) (hx : ρ x = v) : (execOp ρ o).run P w = .ok (.value (.func (.func k) #[] #[v])) w := by
  unfold execOp; rw [ho]
  simp [Instr.makeFunc, hx]
theorem s_callv {d k : Nat} {x : Operand} {opd : Array Operand} {ats : Array TypeId} {fn : Func} {args cap : List Value} {T : Value → World → Prop} (hc : Ret P k (args ++ cap) w T) (hf : P.funcs[k]? = some fn) (hb : fn.body.isNone = false) (hn : (fn.name == "runtime.NumGoroutine") = false)
    (hg : o.guard = none) (hd : o.dst = some d) (ho : o.op = .call { callee := .value x, args := opd, argTypes := ats }) (hx : ev n f x = .func (.func k) #[] cap.toArray) (hargs : opd.toList.map (ev n f) = args)
    (h : ∀ v w', T v w' → wpList P ops Q rest (St n (upd f d v)) w') : wpList P ops Q (o :: rest) (St n f) w := by
  refine wpList_plain hg fun K hK => ?_
  have hrun : (execOp (ev n f) o).run P w = .ok (.enter k (args ++ cap).toArray) w := by
    have h1 : fn.name ≠ "runtime.NumGoroutine" := by simpa using hn
    have h2 : ¬ fn.body = none := by intro e; simp [e] at hb
    unfold execOp; rw [ho]
    have e : opd.map (ev n f) = args.toArray := by rw [← hargs]; apply Array.ext'; simp
    simp [resolve, e, hx, Deferred.ofValue, invoke, callFunc, hf, h1, h2]
  unfold Oper.wp
  rw [eval_St, hrun]
  refine Calls.mono hc ?_
  rintro e w' ⟨v, rfl, hv⟩
  show K ((St n f).put o.dst v) w'
  refine hK _ _ ?_
  rw [hd, put_St]
  exact h v w' hv
theorem v_nilErr {t t' : TypeId} {x : Operand} {ms : Array (String × TypeId)} (hu : P.underlying t = some (.interface ms)) (ho : o.op = .binOp .eql t x (.const .nilIface) t') (hx : ρ x = .nilIface) (hc : ρ (.const .nilIface) = .nilIface) : (execOp ρ o).run P w = .ok (.value (.bool true)) w := by
  unfold execOp; rw [ho]
  have h : (binOp .eql t .nilIface .nilIface).run P w = .ok (.bool true) w := by
    have h : (Op.equalIn 10000 t .nilIface .nilIface).run P w = .ok true w := by
      unfold Op.equalIn
      simp [run_underlying hu]
    simp [binOp, Op.equal, Op.maxDepth, h]
  simp [hx, hc, eqGuard_nil_constR, h]
theorem v_nilErrN {t t' : TypeId} {x : Operand} {ms : Array (String × TypeId)} (hu : P.underlying t = some (.interface ms)) (ho : o.op = .binOp .neq t x (.const .nilIface) t') (hx : ρ x = .nilIface) (hc : ρ (.const .nilIface) = .nilIface) : (execOp ρ o).run P w = .ok (.value (.bool false)) w := by
  unfold execOp; rw [ho]
  have h : (binOp .neq t .nilIface .nilIface).run P w = .ok (.bool false) w := by
    have h : (Op.equalIn 10000 t .nilIface .nilIface).run P w = .ok true w := by
      unfold Op.equalIn
      simp [run_underlying hu]
    simp [binOp, Op.equal, Op.maxDepth, h]
  simp [hx, hc, eqGuard_nil_constR, h]
end
end Go.Dk
end
section
set_option linter.unusedVariables false
namespace Go.Dk
open Go Go.RowKit Go.Lib
section
variable {P : Program} {o : Oper} {n : Nat} {w w0 : World} {L : List (Nat × Obj)} {R : List Row} {ρ : Operand → Value}
theorem v_b2sNil {s t e : TypeId} {x : Operand} (ho : o.op = .convert s t x) (hs : P.underlying s = some (.slice e)) (he : P.underlying e = some (.int .u8)) (ht : P.underlying t = some .string) (hx : ρ x = .slice none 0 0) : (execOp ρ o).run P w = .ok (.value (.string (bs []))) w := by
  unfold execOp; rw [ho]
  have e2 : bs [] = ByteArray.empty := rfl
  rw [e2]
  simp [hx, convert, run_underlying hs, run_underlying ht, run_underlying he, Conv.bytesToString]
theorem v_rowStr {s t e : TypeId} {x : Operand} {v : Value} {m : Nat} {l : List UInt8} (cx : Cxr w0 w L (⟨5, 1, v, m, l.map bv⟩ :: R)) (ho : o.op = .convert s t x) (hs : P.underlying s = some (.slice e)) (he : P.underlying e = some (.int .u8)) (ht : P.underlying t = some .string) (hx : ρ x = v) : (execOp ρ o).run P w = .ok (.value (.string (bs l))) w := by
  have hrow := cx.rows _ (List.mem_cons_self ..)
  simp only at hrow
  have hm : m = l.length := by have := hrow.1; simp at this; omega
  rcases Nat.eq_zero_or_pos m with h0 | h0
  · have hl : l = [] := List.eq_nil_of_length_eq_zero (by omega)
    subst hl
    rcases hrow.2 with ⟨rfl, h2⟩ | ⟨g, cap, cur, rfl, h3⟩
    · exact v_b2sNil ho hs he ht hx
    · have h4 := v_b2s (P := P) (w := w) (ns := []) (m := m) ho hs he ht (b := g) (off := 0) (c := cap) (fun j y hj => by simp at hj) (by simp; omega) hx
      exact h4
  · obtain ⟨g, c, rfl, hr⟩ := cx.bytes hm rfl h0
    have h4 := v_b2s (P := P) (w := w) (ns := l.map fun x : UInt8 => (x.toNat : Int)) (m := m) ho hs he ht (by rw [List.map_map]; exact hr) (by rw [List.length_map]; omega) hx
    rw [strOf_bs] at h4
    exact h4
end
end Go.Dk
end
section
set_option linter.unusedVariables false
namespace Go.Dk
open Go Go.RowKit Go.Lib
open Classical in
noncomputable def lookP (es : List Ent) (q : List Stp) : Option Ent := es.find? fun e => decide (e.path = q)
theorem lookP_some {es : List Ent} {q : List Stp} {i : Nat} {e : Ent} (hi : es[i]? = some e) (he : e.path = q) (hb : ∀ y ∈ es.take i, y.path ≠ q) : lookP es q = some e := by
  obtain ⟨hlt, e'⟩ := List.getElem?_eq_some_iff.1 hi
  unfold lookP
  rw [← List.take_append_drop i es, List.find?_append, List.find?_eq_none.2 fun y hy => by simpa using hb y hy, List.drop_eq_getElem_cons hlt, e']
  simp [he]
theorem lookP_none {es : List Ent} {q : List Stp} (hb : ∀ y ∈ es, y.path ≠ q) : lookP es q = none := by
  unfold lookP
  exact List.find?_eq_none.2 fun y hy => by simpa using hb y hy
noncomputable def nearN (es : List Ent) (p : List Stp) : Nat → Option Ent
  | 0 => none
  | n + 1 => match lookP es (p.take (n + 1)) with
    | some e => some e
    | none => nearN es p n
noncomputable def nearP (es : List Ent) (p : List Stp) : Option Ent := nearN es p p.length
theorem nearN_some {es : List Ent} {p : List Stp} {n : Nat} {e : Ent} (h0 : 0 < n) (h : lookP es (p.take n) = some e) : nearN es p n = some e := by
  obtain ⟨n, rfl⟩ : ∃ m, n = m + 1 := ⟨n - 1, by omega⟩
  unfold nearN
  rw [h]
theorem nearN_none {es : List Ent} {p : List Stp} {n : Nat} (h0 : 0 < n) (h : lookP es (p.take n) = none) : nearN es p n = nearN es p (n - 1) := by
  obtain ⟨n, rfl⟩ : ∃ m, n = m + 1 := ⟨n - 1, by omega⟩
  conv => lhs; unfold nearN
  rw [h]
  rfl
def Pre (p m : List Stp) : Prop := m.length ≤ p.length ∧ p.take m.length = m
theorem near_some {es : List Ent} {p : List Stp} {b : Nat} {e : Ent} (hb : es[b]? = some e) (hp : Pre p e.path) (h0 : 0 < e.path.length) (h1 : ∀ y ∈ es, Pre p y.path → y.path.length ≤ e.path.length)
    (h2 : ∀ y ∈ es.take b, Pre p y.path → y.path.length < e.path.length) : nearP es p = some e := by
  have key : ∀ n, e.path.length ≤ n → n ≤ p.length → nearN es p n = some e := by
    intro n
    induction n with
    | zero => intro h; omega
    | succ n ih =>
      intro hn hn2
      rcases Nat.lt_or_ge n e.path.length with h | h
      · have e1 : n + 1 = e.path.length := by omega
        refine nearN_some (by omega) (lookP_some hb (by rw [e1]; exact hp.2.symm) fun y hy hq => ?_)
        have hl : y.path.length = n + 1 := by rw [hq]; simp; omega
        have hpy : Pre p y.path := ⟨by omega, by rw [hl, hq]⟩
        have := h2 y hy hpy
        omega
      · rw [nearN_none (by omega) (lookP_none fun y hy hq => ?_)]
        · exact ih h (by omega)
        · have hl : y.path.length = n + 1 := by rw [hq]; simp; omega
          have := h1 y hy ⟨by omega, by rw [hl, hq]⟩
          omega
  exact key p.length hp.1 (Nat.le_refl _)
theorem near_none {es : List Ent} {p : List Stp} (h : ∀ y ∈ es, ¬ Pre p y.path) : nearP es p = none := by
  have key : ∀ n, n ≤ p.length → nearN es p n = none := by
    intro n
    induction n with
    | zero => intro _; rfl
    | succ n ih =>
      intro hn
      rw [nearN_none (by omega) (lookP_none fun y hy hq => ?_)]
      · exact ih (by omega)
      · have hl : y.path.length = n + 1 := by rw [hq]; simp; omega
        exact h y hy ⟨by omega, by rw [hl, hq]⟩
  exact key p.length (Nat.le_refl _)
def BestI (es : List Ent) (p : List Stp) (i : Nat) (b : Int) : Prop :=
  (b = -1 ∧ ∀ y ∈ es.take i, ¬ Pre p y.path) ∨ ∃ (k : Nat) (e : Ent), b = k ∧ k < i ∧ es[k]? = some e ∧ Pre p e.path ∧ (∀ y ∈ es.take i, Pre p y.path → y.path.length ≤ e.path.length) ∧ (∀ y ∈ es.take k, Pre p y.path → y.path.length < e.path.length)
theorem mem_take_succ {α : Type} {l : List α} {i : Nat} {x y : α} (h : l[i]? = some x) (hy : y ∈ l.take (i + 1)) : y ∈ l.take i ∨ y = x := by
  obtain ⟨hlt, e⟩ := List.getElem?_eq_some_iff.1 h
  rw [List.take_succ_eq_append_getElem hlt, e] at hy
  simpa using hy
theorem BestI.zero (es : List Ent) (p : List Stp) : BestI es p 0 (-1) := .inl ⟨rfl, by simp⟩
theorem BestI.skip {es : List Ent} {p : List Stp} {i : Nat} {b : Int} {x : Ent} (h : BestI es p i b) (hx : es[i]? = some x) (hn : ¬ Pre p x.path) : BestI es p (i + 1) b := by
  rcases h with ⟨h1, h2⟩ | ⟨k, e, h1, h2, h3, h4, h5, h6⟩
  · refine .inl ⟨h1, fun y hy => ?_⟩
    rcases mem_take_succ hx hy with h | rfl
    · exact h2 y h
    · exact hn
  · refine .inr ⟨k, e, h1, by omega, h3, h4, fun y hy hp => ?_, h6⟩
    rcases mem_take_succ hx hy with h | rfl
    · exact h5 y h hp
    · exact absurd hp hn
theorem BestI.keep {es : List Ent} {p : List Stp} {i k : Nat} {x e : Ent} (h : BestI es p i k) (hx : es[i]? = some x) (he : es[k]? = some e) (hl : x.path.length ≤ e.path.length) : BestI es p (i + 1) k := by
  rcases h with ⟨h1, h2⟩ | ⟨k', e', h1, h2, h3, h4, h5, h6⟩
  · omega
  · obtain rfl : k = k' := by omega
    rw [he] at h3; cases h3
    refine .inr ⟨k, e, h1, by omega, he, h4, fun y hy hp => ?_, h6⟩
    rcases mem_take_succ hx hy with h | rfl
    · exact h5 y h hp
    · exact hl
theorem BestI.fresh {es : List Ent} {p : List Stp} {i : Nat} {b : Int} {x : Ent} (h : BestI es p i b) (hx : es[i]? = some x) (hp : Pre p x.path) (hb : b < 0) : BestI es p (i + 1) i := by
  rcases h with ⟨h1, h2⟩ | ⟨k', e', h1, h2, h3, h4, h5, h6⟩
  · refine .inr ⟨i, x, rfl, by omega, hx, hp, fun y hy hp' => ?_, fun y hy hp' => absurd hp' (h2 y hy)⟩
    rcases mem_take_succ hx hy with h | rfl
    · exact absurd hp' (h2 y h)
    · exact Nat.le_refl _
  · omega
theorem BestI.more {es : List Ent} {p : List Stp} {i k : Nat} {x e : Ent} (h : BestI es p i k) (hx : es[i]? = some x) (hp : Pre p x.path) (he : es[k]? = some e) (hl : e.path.length < x.path.length) : BestI es p (i + 1) i := by
  rcases h with ⟨h1, h2⟩ | ⟨k', e', h1, h2, h3, h4, h5, h6⟩
  · omega
  · obtain rfl : k = k' := by omega
    rw [he] at h3; cases h3
    refine .inr ⟨i, x, rfl, by omega, hx, hp, fun y hy hp' => ?_, fun y hy hp' => ?_⟩
    · rcases mem_take_succ hx hy with h | rfl
      · have := h5 y h hp'; omega
      · exact Nat.le_refl _
    · have := h5 y hy hp'; omega
theorem BestI.lt {es : List Ent} {p : List Stp} {i : Nat} {b : Int} (h : BestI es p i b) (h0 : 0 ≤ b) : ∃ (k : Nat) (e : Ent), b = k ∧ k < i ∧ es[k]? = some e := by
  rcases h with ⟨h1, h2⟩ | ⟨k', e', h1, h2, h3, h4, h5, h6⟩
  · omega
  · exact ⟨k', e', h1, h2, h3⟩
theorem BestI.end0 {es : List Ent} {p : List Stp} {i : Nat} {b : Int} (h : BestI es p i b) (hi : es.length ≤ i) (h0 : b < 0) : nearP es p = none := by
  rcases h with ⟨h1, h2⟩ | ⟨k', e', h1, h2, h3, h4, h5, h6⟩
  · rw [List.take_of_length_le hi] at h2
    exact near_none h2
  · omega
theorem BestI.end1 {es : List Ent} {p : List Stp} {i k : Nat} {e : Ent} (h : BestI es p i k) (hi : es.length ≤ i) (he : es[k]? = some e) (h0 : 0 < e.path.length) : nearP es p = some e := by
  rcases h with ⟨h1, h2⟩ | ⟨k', e', h1, h2, h3, h4, h5, h6⟩
  · omega
  · obtain rfl : k = k' := by omega
    rw [he] at h3; cases h3
    rw [List.take_of_length_le hi] at h5
    exact near_some he h4 h0 h5 h6
theorem entsE_past {x : Idx} : ∀ {l d : List Ent}, entsE x d l = 0 → ∀ j e, l[j]? = some e → entE x (d ++ l.take j) e = 0
  | [], _, _, j, e, h => by simp at h
  | a :: l, d, h0, j, e, h => by
    unfold entsE at h0
    split at h0
    · rename_i h1; exact absurd h0 h1
    · rename_i h1
      cases j with
      | zero =>
        simp at h
        subst h
        simpa using Classical.not_not.1 h1
      | succ j =>
        have := entsE_past h0 j e (by simpa using h)
        simpa using this
theorem chk_past {x : Idx} (h : chkX x = 0) : Past x x.ents x.ents.length := by
  unfold chkX at h
  split at h
  · cases h
  · split at h
    · rename_i h2; exact absurd h h2
    · intro j e _ he
      have := entsE_past h j e he
      simpa using this
theorem chk_good {x : Idx} (h : chkX x = 0) : ∀ e ∈ x.ents, GdP e.path ∧ 0 < e.path.length := by
  intro e he
  obtain ⟨j, hj⟩ := List.getElem?_of_mem he
  have h1 := (entE_ok (chk_past h j e (List.getElem?_eq_some_iff.1 hj).1 hj)).1
  unfold pthBad at h1
  exact ⟨Classical.not_not.1 fun h => h1 (.inl h), by omega⟩
theorem chk_size {x : Idx} (h : chkX x = 0) : ¬ hdrBad x := by
  intro hb
  unfold chkX at h
  rw [if_pos hb] at h
  cases h
end Go.Dk
namespace Go.Dk
theorem take_snoc {α : Type} {l : List α} {i : Nat} {x : α} (h : l[i]? = some x) : l.take (i + 1) = l.take i ++ [x] := by
  obtain ⟨hlt, e⟩ := List.getElem?_eq_some_iff.1 h
  rw [List.take_succ_eq_append_getElem hlt, e]
end Go.Dk
namespace Go.Dk
open Go Go.RowKit Go.Lib
theorem BestI.more' {es : List Ent} {p : List Stp} {i : Nat} {b : Int} {x e : Ent} (h : BestI es p i b) (h0 : 0 ≤ b) (hx : es[i]? = some x) (hp : Pre p x.path) (he : es[b.toNat]? = some e) (hl : e.path.length < x.path.length) : BestI es p (i + 1) i := by
  obtain ⟨k, rfl⟩ := Int.eq_ofNat_of_zero_le h0
  exact h.more hx hp he hl
theorem BestI.keep' {es : List Ent} {p : List Stp} {i : Nat} {b : Int} {x e : Ent} (h : BestI es p i b) (h0 : 0 ≤ b) (hx : es[i]? = some x) (he : es[b.toNat]? = some e) (hl : x.path.length ≤ e.path.length) : BestI es p (i + 1) b := by
  obtain ⟨k, rfl⟩ := Int.eq_ofNat_of_zero_le h0
  exact h.keep hx he hl
theorem BestI.fin {es : List Ent} {p : List Stp} {i : Nat} {b : Int} {e : Ent} (h : BestI es p i b) (h1 : 0 ≤ b) (hi : es.length ≤ i) (he : es[b.toNat]? = some e) (h0 : 0 < e.path.length) : nearP es p = some e := by
  obtain ⟨k, rfl⟩ := Int.eq_ofNat_of_zero_le h1
  exact h.end1 hi he h0
theorem BestI.hi {es : List Ent} {p : List Stp} {i : Nat} {b : Int} (h : BestI es p i b) : b < i ∧ -1 ≤ b := by
  rcases h with ⟨h1, h2⟩ | ⟨k', e', h1, h2, h3, h4, h5, h6⟩ <;> omega
theorem BestI.ex {es : List Ent} {p : List Stp} {i : Nat} {b : Int} (h : BestI es p i b) : ∃ e, 0 ≤ b → es[b.toNat]? = some e := by
  rcases h with ⟨h1, h2⟩ | ⟨k', e', h1, h2, h3, h4, h5, h6⟩
  · exact ⟨⟨[], 0, 0⟩, fun h => by omega⟩
  · exact ⟨e', fun _ => by rw [h1]; exact h3⟩
open Classical in
noncomputable def preB (p m : List Stp) : Bool := decide (Pre p m)
theorem preB_T {p m : List Stp} : preB p m = true ↔ Pre p m := by unfold preB; simp
theorem preB_F {p m : List Stp} : preB p m = false ↔ ¬ Pre p m := by unfold preB; simp
def lkF (o : Option Ent) : Int := match o with | some e => e.fr | none => 0
def lkT (o : Option Ent) : Int := match o with | some e => e.to | none => 0
def lkP (o : Option Ent) : List Stp := match o with | some e => e.path | none => []
noncomputable def lookV (es : List Ent) (l : List Stp) : Value := .tuple #[.agg #[.int .i64 (lkF (lookP es l)), .int .i64 (lkT (lookP es l))], .bool (lookP es l).isSome]
theorem lookP_path {es : List Ent} {q : List Stp} {e : Ent} (h : lookP es q = some e) : e.path = q := by
  unfold lookP at h
  simpa using List.find?_some h
theorem lookP_mem {es : List Ent} {q : List Stp} {e : Ent} (h : lookP es q = some e) : e ∈ es := List.mem_of_find?_eq_some h
def NearV (o : Option Ent) (u : Value) (w : World) : Prop := ∃ q, u = .tuple #[.agg #[q, .int .i64 (lkF o), .int .i64 (lkT o)], .bool o.isSome] ∧ Pth w q (lkP o)
theorem pth_nil (w : World) : Pth w (.slice none 0 0) [] := ⟨0, 0, .inl ⟨rfl, rfl⟩, fun i x hx => by simp at hx⟩
theorem srow_len (s : Stp) : (srow s).length = 3 := rfl
theorem flat3 : ∀ (l : List Stp), (l.flatMap srow).length = l.length * 3
  | [] => rfl
  | s :: l => by simp only [List.flatMap_cons, List.length_append, srow_len, flat3 l, List.length_cons]; omega
theorem flat3_at : ∀ (l : List Stp) (i j : Nat) (x : Stp) (v : Value), l[i]? = some x → (srow x)[j]? = some v → (l.flatMap srow)[i * 3 + j]? = some v
  | [], i, j, x, v, h, _ => by simp at h
  | s :: l, 0, j, x, v, h, hj => by
    simp at h; subst h
    have : j < 3 := by have := (List.getElem?_eq_some_iff.1 hj).1; simpa [srow_len] using this
    rw [List.flatMap_cons, List.getElem?_append_left (by rw [srow_len]; omega)]
    simpa using hj
  | s :: l, i + 1, j, x, v, h, hj => by
    rw [List.flatMap_cons, List.getElem?_append_right (by rw [srow_len]; omega), srow_len, show (i + 1) * 3 + j - 3 = i * 3 + j by omega]
    exact flat3_at l i j x v (by simpa using h) hj
theorem flat3_of : ∀ (l : List Stp) (n : Nat) (v : Value), (l.flatMap srow)[n]? = some v → ∃ x, l[n / 3]? = some x ∧ (srow x)[n % 3]? = some v
  | [], n, v, h => by simp at h
  | s :: l, n, v, h => by
    rw [List.flatMap_cons] at h
    rcases Nat.lt_or_ge n 3 with hn | hn
    · rw [List.getElem?_append_left (by rw [srow_len]; omega)] at h
      refine ⟨s, ?_, ?_⟩
      · rw [show n / 3 = 0 by omega]; rfl
      · rw [show n % 3 = n by omega]; exact h
    · rw [List.getElem?_append_right (by rw [srow_len]; omega), srow_len] at h
      obtain ⟨x, h1, h2⟩ := flat3_of l (n - 3) v h
      refine ⟨x, ?_, ?_⟩
      · rw [show n / 3 = (n - 3) / 3 + 1 by omega]; simpa using h1
      · rw [show n % 3 = (n - 3) % 3 by omega]; exact h2
theorem flat3_one (l : List Stp) : (l.flatMap srow).all (·.oneCell') = true := by
  rw [List.all_eq_true]
  intro v hv
  obtain ⟨s, _, hs⟩ := List.mem_flatMap.1 hv
  simp [srow] at hs
  rcases hs with rfl | rfl | rfl <;> rfl
theorem Pth.src {w : World} {s : Value} {l : List Stp} (h : Pth w s l) (h0 : 0 < l.length) : ∃ b o c, s = .slice (some ⟨b, o, none⟩) l.length c ∧ RowAt w b o (l.flatMap srow) := by
  obtain ⟨b, o, hs, hr⟩ := h
  rcases hs with ⟨h1, _⟩ | ⟨ad, cap, rfl, _, h1⟩
  · omega
  · obtain ⟨rfl, _⟩ := h1 h0
    refine ⟨b, o, cap, rfl, fun n v hn => ?_⟩
    obtain ⟨x, hx, hv⟩ := flat3_of l n v hn
    have := hr (n / 3) x hx (n % 3) v hv
    rwa [show o + n / 3 * 3 + n % 3 = o + n by omega] at this
theorem Pth.ofRow {w : World} {b o c n : Nat} {l : List Stp} (hb : b < w.heap.size) (hn : n = l.length) (hc : n ≤ c) (h : RowAt w b o (l.flatMap srow)) : Pth w (.slice (some ⟨b, o, none⟩) n c) l := by
  subst hn
  refine ⟨b, o, .inr ⟨_, _, rfl, hc, fun _ => ⟨rfl, hb⟩⟩, fun i x hx j v hv => ?_⟩
  have := h (i * 3 + j) v (flat3_at l i j x v hx hv)
  rwa [show o + (i * 3 + j) = o + i * 3 + j by omega] at this
theorem Cxr.rowS {w0 w : World} {L : List (Nat × Obj)} {R : List Row} {e k n : Nat} {v : Value} {xs : List Value} (h : Cxr w0 w L (⟨e, k, v, n, xs⟩ :: R)) (h0 : 0 < xs.length) : ∃ g c, v = .slice (some ⟨g, 0, none⟩) n c ∧ n ≤ c ∧ g < w.heap.size ∧ RowAt w g 0 xs := by
  have hrow := h.rows _ (List.mem_cons_self ..)
  simp only at hrow
  rcases hrow.2 with ⟨_, h2⟩ | ⟨g, cap, cur, rfl, hb, hg, hnc, hcm, hcs, htake⟩
  · exfalso
    have := hrow.1
    rw [h2] at this
    simp at this
    rw [this] at h0
    simp at h0
  · refine ⟨g, cap, rfl, hnc, (Array.getElem?_eq_some_iff.1 hg).1, fun j x hj => ?_⟩
    have := hrow.cells (g := g) rfl j x hj
    rwa [add_addr] at this
section
variable {P : Program} {o : Oper} {w : World} {ρ : Operand → Value}
theorem v_beq {t t' : TypeId} {x y : Operand} {p q : Bool} (h : ∀ w, (binOp .eql t (.bool p) (.bool q)).run P w = .ok (.bool (p == q)) w) (ho : o.op = .binOp .eql t x y t') (hx : ρ x = .bool p) (hy : ρ y = .bool q) : (execOp ρ o).run P w = .ok (.value (.bool (p == q))) w := by
  unfold execOp; rw [ho]
  simp [hx, hy, eqGuard, h w]
end
end Go.Dk
namespace Go.Dk
open Go Go.RowKit Go.Lib
theorem near_mem {es : List Ent} {p : List Stp} : ∀ (n : Nat) {e : Ent}, nearN es p n = some e → e ∈ es
  | 0, e, h => by simp [nearN] at h
  | n + 1, e, h => by
    unfold nearN at h
    split at h
    · rename_i e' h'
      cases h
      exact lookP_mem h'
    · exact near_mem n h
theorem near_len {es : List Ent} {p : List Stp} {N : Nat} (h : ∀ e ∈ es, e.path.length ≤ N) : (lkP (nearP es p)).length ≤ N := by
  unfold lkP
  split
  · rename_i e he
    exact h e (near_mem _ he)
  · simp
end Go.Dk
end
section
set_option linter.unusedVariables false
namespace Go.Dk
open Go Go.RowKit Go.Lib
theorem getD_at (a z : List UInt8) (n : Nat) (h : n = a.length) : (a ++ z).getD n 0 = z.getD 0 0 := by
  subst h
  cases z with
  | nil => simp [List.getD]
  | cons c t => simp [List.getD, List.getElem?_append_right]
theorem drop_at (a z : List UInt8) (n m : Nat) (h : n = a.length + m) : (a ++ z).drop n = z.drop m := by
  subst h
  simp [List.drop_append]
def rstQ (k y : List UInt8) (i : Nat) : List UInt8 := qtd (k.drop i) ++ 34 :: y
theorem qtd_split (k y : List UInt8) (i : Nat) : 34 :: (qtd k ++ 34 :: y) = (34 :: qtd (k.take i)) ++ rstQ k y i := by
  have e : qtd k = qtd (k.take i) ++ qtd (k.drop i) := by
    unfold qtd
    rw [← List.flatMap_append, List.take_append_drop]
  rw [e]
  simp [rstQ]
theorem rstQ_end (k y : List UInt8) (i : Nat) (h : k.length ≤ i) : rstQ k y i = 34 :: y := by
  unfold rstQ
  rw [List.drop_eq_nil_of_le h]
  rfl
theorem rstQ_step (k y : List UInt8) (i : Nat) (c : UInt8) (h : k[i]? = some c) : rstQ k y i = sgn c ++ rstQ k y (i + 1) := by
  obtain ⟨hi, rfl⟩ := List.getElem?_eq_some_iff.1 h
  unfold rstQ
  rw [List.drop_eq_getElem_cons hi]
  simp only [qtd, List.flatMap_cons, List.append_assoc]
theorem qtdt_succ (k : List UInt8) (i : Nat) (c : UInt8) (h : k[i]? = some c) : qtd (k.take (i + 1)) = qtd (k.take i) ++ sgn c := by
  obtain ⟨hi, rfl⟩ := List.getElem?_eq_some_iff.1 h
  rw [List.take_succ_eq_append_getElem hi]
  simp only [qtd, List.flatMap_append, List.flatMap_cons, List.flatMap_nil, List.append_nil]
theorem sgn_two (c : UInt8) : (sgn c = [c] ∧ c.toNat ≠ 34 ∧ c.toNat ≠ 92) ∨ ∃ t, sgn c = 92 :: t ∧ 0 < t.length := by
  unfold sgn
  split
  · exact .inr ⟨_, rfl, by simp⟩
  · rename_i h0
    split
    · exact .inr ⟨_, rfl, by simp⟩
    · split
      · exact .inr ⟨_, rfl, by simp⟩
      · split
        · exact .inr ⟨_, rfl, by simp⟩
        · split
          · exact .inr ⟨_, rfl, by simp⟩
          · refine .inl ⟨rfl, ?_, ?_⟩
            · intro e; exact h0 (.inl (UInt8.toNat_inj.1 e))
            · intro e; exact h0 (.inr (UInt8.toNat_inj.1 e))
theorem rst_case (k y : List UInt8) (i : Nat) (hi : i ≤ k.length) : (i = k.length ∧ ((rstQ k y i).getD 0 0).toNat = 34) ∨ (∃ c, k[i]? = some c ∧ sgn c = [c] ∧ (rstQ k y i).getD 0 0 = c ∧ c.toNat ≠ 34 ∧ c.toNat ≠ 92) ∨
    ∃ c t, k[i]? = some c ∧ sgn c = 92 :: t ∧ 0 < t.length ∧ ((rstQ k y i).getD 0 0).toNat = 92 := by
  rcases Nat.lt_or_ge i k.length with h | h
  · obtain ⟨c, hc⟩ : ∃ c, k[i]? = some c := ⟨k[i], List.getElem?_eq_getElem h⟩
    rw [rstQ_step k y i c hc]
    rcases sgn_two c with ⟨h1, h2, h3⟩ | ⟨t, h1, h2⟩
    · exact .inr (.inl ⟨c, hc, h1, by rw [h1]; rfl, h2, h3⟩)
    · exact .inr (.inr ⟨c, t, hc, h1, h2, by rw [h1]; rfl⟩)
  · refine .inl ⟨by omega, ?_⟩
    rw [rstQ_end k y i h]
    rfl
theorem rst_pos (k y : List UInt8) (i : Nat) : 0 < (rstQ k y i).length := by
  unfold rstQ
  simp only [List.length_append, List.length_cons]
  omega
theorem take_bv {k : List UInt8} {i : Nat} {c : UInt8} (h : k[i]? = some c) : (k.take i).map bv ++ [.int .u8 (c.toNat : Int)] = (k.take (i + 1)).map bv := by
  rw [take_snoc h, List.map_append]
  rfl
end Go.Dk
end
section
set_option linter.unusedVariables false
set_option linter.unusedSimpArgs false
namespace Go.Dk
open Go Go.RowKit Go.Lib
theorem valid_asc (a z : List UInt8) (h : ∀ b ∈ a, b.toNat < 128) : validD (a ++ z) = validD z := by
  have := validD_ascii a.length (a ++ z) (by rw [List.take_left]; exact h)
  rw [List.drop_left] at this
  exact this
theorem first_lo (b : Nat) (h : 2 ≤ firstT b % 8) : 128 ≤ accLo (firstT b / 16) := by
  have h2 : firstT b = 240 ∨ firstT b = 241 ∨ firstT b = 2 ∨ firstT b = 19 ∨ firstT b = 3 ∨ firstT b = 35 ∨ firstT b = 52 ∨ firstT b = 4 ∨ firstT b = 68 := by
    unfold firstT
    repeat' split
    all_goals omega
  rcases h2 with e | e | e | e | e | e | e | e | e <;> rw [e] at h ⊢ <;> revert h <;> decide
theorem check_some {n b1 b2 b3 sz lo hi k : Nat} (h : checkN n b1 b2 b3 sz lo hi = some k) (hlo : 2 ≤ sz → 128 ≤ lo) :
    2 ≤ k ∧ k ≤ n ∧ 128 ≤ b1 ∧ (2 < k → 128 ≤ b2) ∧ (3 < k → 128 ≤ b3) ∧ k ≤ 4 ∧ ∀ n' c2 c3, k ≤ n' → (2 < k → c2 = b2) → (3 < k → c3 = b3) → checkN n' b1 c2 c3 sz lo hi = some k := by
  unfold checkN at h
  split at h
  · rename_i hs
    split at h
    · cases h
    · cases h
      have hlo' := hlo (by omega)
      refine ⟨by omega, by omega, by omega, fun h => by omega, fun h => by omega, by omega, fun n' c2 c3 h1 h2 h3 => ?_⟩
      unfold checkN
      rw [if_pos hs, if_neg (by omega)]
  · rename_i hs
    split at h
    · rename_i hs2
      split at h
      · cases h
      · cases h
        have hlo' := hlo (by omega)
        refine ⟨by omega, by omega, by omega, fun h => by omega, fun h => by omega, by omega, fun n' c2 c3 h1 h2 h3 => ?_⟩
        obtain rfl := h2 (by omega)
        unfold checkN
        rw [if_neg hs, if_pos hs2, if_neg (by omega)]
    · rename_i hs2
      split at h
      · rename_i hs3
        split at h
        · cases h
        · cases h
          have hlo' := hlo (by omega)
          refine ⟨by omega, by omega, by omega, fun h => by omega, fun h => by omega, by omega, fun n' c2 c3 h1 h2 h3 => ?_⟩
          obtain rfl := h2 (by omega)
          obtain rfl := h3 (by omega)
          unfold checkN
          rw [if_neg hs, if_neg hs2, if_pos hs3, if_neg (by omega)]
      · cases h
theorem getD_take (l z : List UInt8) (k j : Nat) (h : j < k) (hk : k ≤ l.length) : (l.take k ++ z).getD j 0 = l.getD j 0 := by
  have h1 : j < (l.take k).length := by rw [List.length_take]; omega
  rw [List.getD, List.getD, List.getElem?_append_left h1, List.getElem?_take_of_lt h]
theorem valid_word (l : List UInt8) (hv : validD l = true) (hne : l ≠ []) :
    ∃ k, 1 ≤ k ∧ k ≤ l.length ∧ (k = 1 ∨ ∀ b ∈ l.take k, 128 ≤ b.toNat) ∧ validD (l.drop k) = true ∧ ∀ z, validD (l.take k ++ z) = validD z := by
  have hl : 0 < l.length := List.length_pos_iff.2 hne
  by_cases h0 : (l.getD 0 0).toNat < 128
  · cases l with
    | nil => exact absurd rfl hne
    | cons b t =>
      have h1 : b.toNat < 128 := h0
      refine ⟨1, by omega, by simp, .inl rfl, ?_, fun z => ?_⟩
      · rw [validD_cons b t h1] at hv
        exact hv
      · exact validD_cons b z h1
  · have hlead := validD_lead l hne (by omega)
    rw [hv] at hlead
    split at hlead
    · cases hlead
    · rename_i k hc
      obtain ⟨h2, hk, hb1, hb2, hb3, h4, hall⟩ := check_some hc (first_lo _)
      refine ⟨k, by omega, hk, .inr ?_, hlead.symm, fun z => ?_⟩
      · intro b hb
        obtain ⟨j, hj⟩ := List.getElem?_of_mem hb
        have hjk : j < k := by
          have := (List.getElem?_eq_some_iff.1 hj).1
          rw [List.length_take] at this
          omega
        rw [List.getElem?_take_of_lt hjk] at hj
        have e : l.getD j 0 = b := by rw [List.getD, hj]; rfl
        have : j = 0 ∨ j = 1 ∨ j = 2 ∨ j = 3 := by omega
        rcases this with rfl | rfl | rfl | rfl
        · rw [e] at h0; omega
        · rw [e] at hb1; omega
        · rw [e] at hb2; exact hb2 (by omega)
        · rw [e] at hb3; exact hb3 (by omega)
      · have hlen : (l.take k).length = k := by rw [List.length_take]; omega
        have hne2 : l.take k ++ z ≠ [] := by
          intro e
          have := congrArg List.length e
          rw [List.length_append, hlen] at this
          simp only [List.length_nil] at this
          omega
        have e0 := getD_take l z k 0 (by omega) hk
        have e1 := getD_take l z k 1 (by omega) hk
        rw [validD_lead _ hne2 (by rw [e0]; omega), e0, e1, hall _ _ _ (by rw [List.length_append]; omega) (fun h => by rw [getD_take l z k 2 h hk]) (fun h => by rw [getD_take l z k 3 h hk])]
        simp only
        rw [List.drop_append_of_le_length (by omega), List.drop_of_length_le (by omega)]
        rfl
theorem valid_flat (g : UInt8 → List UInt8) (h1 : ∀ b, 128 ≤ b.toNat → g b = [b]) (h2 : ∀ b, b.toNat < 128 → ∀ x ∈ g b, x.toNat < 128) :
    ∀ (n : Nat) (l : List UInt8), l.length ≤ n → validD l = true → ∀ z, validD (l.flatMap g ++ z) = validD z
  | 0, l, hl, _, z => by
    obtain rfl := List.eq_nil_of_length_eq_zero (show l.length = 0 by omega)
    rfl
  | n + 1, l, hl, hv, z => by
    by_cases hne : l = []
    · subst hne; rfl
    · obtain ⟨k, hk1, hkl, hk, hv', hz⟩ := valid_word l hv hne
      have e : l.flatMap g = (l.take k).flatMap g ++ (l.drop k).flatMap g := by rw [← List.flatMap_append, List.take_append_drop]
      have ih := valid_flat g h1 h2 n (l.drop k) (by rw [List.length_drop]; omega) hv' z
      rw [e, List.append_assoc]
      by_cases ha : ∀ b ∈ l.take k, 128 ≤ b.toNat
      · have e2 : (l.take k).flatMap g = l.take k := by
          have : ∀ m : List UInt8, (∀ b ∈ m, 128 ≤ b.toNat) → m.flatMap g = m := by
            intro m hm
            induction m with
            | nil => rfl
            | cons b t ih => rw [List.flatMap_cons, h1 b (hm b (by simp)), ih fun c hc => hm c (by simp [hc])]; rfl
          exact this _ ha
        rw [e2, hz, ih]
      · obtain rfl : k = 1 := hk.resolve_right ha
        rw [valid_asc _ _ ?_, ih]
        intro x hx
        obtain ⟨b, hb, hxb⟩ := List.mem_flatMap.1 hx
        have hb2 : b.toNat < 128 := by
          cases l with
          | nil => exact absurd rfl hne
          | cons c t =>
            simp only [List.take_succ_cons, List.take_zero, List.mem_singleton] at hb
            subst hb
            rcases Nat.lt_or_ge b.toNat 128 with h | h
            · exact h
            · exact absurd (by intro y hy; simp only [List.take_succ_cons, List.take_zero, List.mem_singleton] at hy; subst hy; exact h) ha
        exact h2 b hb2 x hxb
set_option maxRecDepth 100000 in
theorem sgn_hiF : ∀ a : Fin 256, (128 ≤ a.val → sgn (UInt8.ofNat a.val) = [UInt8.ofNat a.val]) ∧ (a.val < 128 → (sgn (UInt8.ofNat a.val)).all (fun x => decide (x.toNat < 128)) = true) ∧ (sgn (UInt8.ofNat a.val)).all (fun x => x != 10) = true := by decide +kernel
set_option maxRecDepth 100000 in
theorem sgq_hiF : ∀ a : Fin 256, (128 ≤ a.val → sgq (UInt8.ofNat a.val) = [UInt8.ofNat a.val]) ∧ (a.val < 128 → (sgq (UInt8.ofNat a.val)).all (fun x => decide (x.toNat < 128)) = true) ∧ (sgq (UInt8.ofNat a.val)).all (fun x => x != 10) = true := by decide +kernel
theorem sgn_hi (b : UInt8) : (128 ≤ b.toNat → sgn b = [b]) ∧ (b.toNat < 128 → ∀ x ∈ sgn b, x.toNat < 128) ∧ ∀ x ∈ sgn b, x ≠ 10 := by
  have h := sgn_hiF ⟨b.toNat, b.toNat_lt⟩
  simp only [UInt8.ofNat_toNat, List.all_eq_true, decide_eq_true_eq, bne_iff_ne] at h
  exact h
theorem sgq_hi (b : UInt8) : (128 ≤ b.toNat → sgq b = [b]) ∧ (b.toNat < 128 → ∀ x ∈ sgq b, x.toNat < 128) ∧ ∀ x ∈ sgq b, x ≠ 10 := by
  have h := sgq_hiF ⟨b.toNat, b.toNat_lt⟩
  simp only [UInt8.ofNat_toNat, List.all_eq_true, decide_eq_true_eq, bne_iff_ne] at h
  exact h
theorem valid_qtd (l z : List UInt8) (h : validD l = true) : validD (qtd l ++ z) = validD z := valid_flat sgn (fun b => (sgn_hi b).1) (fun b => (sgn_hi b).2.1) _ l (Nat.le_refl _) h z
theorem valid_qtq (l z : List UInt8) (h : validD l = true) : validD (qtq l ++ z) = validD z := valid_flat sgq (fun b => (sgq_hi b).1) (fun b => (sgq_hi b).2.1) _ l (Nat.le_refl _) h z
theorem valid_cqt (c : ByteArray) (h : validD c.data.toList = true) : validD (cqt c) = true := by
  unfold cqt
  rw [List.append_assoc, valid_asc _ _ (by simp), valid_qtq _ _ h, ← List.append_nil [34], valid_asc _ _ (by simp)]
  rfl
theorem cqt_10 (c : ByteArray) : ∀ x ∈ cqt c, x ≠ 10 := by
  intro x hx
  unfold cqt qtq at hx
  simp only [List.mem_append, List.mem_singleton, List.mem_flatMap] at hx
  rcases hx with (rfl | ⟨b, _, hb⟩) | rfl
  · decide
  · exact (sgq_hi b).2.2 x hb
  · decide
theorem itoa_dgc {n : Int} (h : 0 ≤ n) : ∀ c ∈ itoa n, dgc c := by
  obtain ⟨m, rfl⟩ := Int.eq_ofNat_of_zero_le h
  intro c hc
  exact dec_dgc m c (by rw [← itoa_nat]; exact hc)
theorem valid_step {s : Stp} (hs : Stv s) (z : List UInt8) : validD (stpT s ++ z) = validD z := by
  unfold stpT
  split
  · rename_i hb
    refine valid_asc _ _ fun c hc => ?_
    simp only [List.mem_append, List.mem_singleton] at hc
    rcases hc with (rfl | hc) | rfl
    · decide
    · have := itoa_dgc (hs.1 hb).2.1 c hc
      unfold dgc at this; omega
    · decide
  · rename_i hb
    split
    · rename_i hn
      refine valid_asc _ _ fun c hc => ?_
      rcases List.mem_cons.1 hc with rfl | hc
      · decide
      · have := isNm_all hn c hc
        unfold nmc lowc digc at this; omega
    · rw [List.append_assoc, List.append_assoc, valid_asc _ _ (by simp), valid_qtd _ _ (hs.2 (by simpa using hb)).2.2, valid_asc _ _ (by simp)]
theorem step_10 {s : Stp} (hs : Stv s) : ∀ x ∈ stpT s, x ≠ 10 := by
  intro x hx
  have big : 48 ≤ x.toNat → x ≠ 10 := by rintro h rfl; revert h; decide
  unfold stpT at hx
  split at hx
  · rename_i hb
    simp only [List.mem_append, List.mem_singleton] at hx
    rcases hx with (rfl | hc) | rfl
    · decide
    · exact big (itoa_dgc (hs.1 hb).2.1 x hc).1
    · decide
  · rename_i hb
    split at hx
    · rename_i hn
      rcases List.mem_cons.1 hx with rfl | hc
      · decide
      · have := isNm_all hn x hc
        unfold nmc lowc digc at this
        exact big (by omega)
    · simp only [List.mem_append, List.mem_cons, List.not_mem_nil, or_false, qtd, List.mem_flatMap] at hx
      rcases hx with ((rfl | rfl) | ⟨b, _, hb⟩) | rfl
      · decide
      · decide
      · exact (sgn_hi b).2.2 x hb
      · decide
theorem valid_steps : ∀ (l : List Stp) (z : List UInt8), (∀ s ∈ l, Stv s) → validD (l.flatMap stpT ++ z) = validD z
  | [], z, _ => rfl
  | s :: l, z, h => by rw [List.flatMap_cons, List.append_assoc, valid_step (h s (by simp)), valid_steps l z fun x hx => h x (by simp [hx])]
theorem valid_path {l : List Stp} (h : ∀ s ∈ l, Stv s) : validD (pathT l) = true := by
  unfold pathT
  split
  · rfl
  · rename_i s t
    rw [valid_asc _ _ (by intro b hb; split at hb <;> simp at hb; subst hb; decide), ← List.append_nil (List.flatMap stpT (s :: t)), valid_steps _ _ h]
    rfl
theorem path_10 {l : List Stp} (h : ∀ s ∈ l, Stv s) : ∀ x ∈ pathT l, x ≠ 10 := by
  intro x hx
  unfold pathT at hx
  split at hx
  · simp only [List.mem_singleton] at hx; subst hx; decide
  · rcases List.mem_append.1 hx with hx | hx
    · split at hx
      · simp only [List.mem_singleton] at hx; subst hx; decide
      · simp at hx
    · obtain ⟨s, hs, hx⟩ := List.mem_flatMap.1 hx
      exact step_10 (h s hs) x hx
end Go.Dk
end
section
set_option linter.unusedVariables false
set_option linter.unusedSimpArgs false
namespace Go.Dk
open Go Go.RowKit Go.Lib
def rstC (k y : List UInt8) (i : Nat) : List UInt8 := qtq (k.drop i) ++ 34 :: y
theorem qtq_split (k y : List UInt8) (i : Nat) : 34 :: (qtq k ++ 34 :: y) = (34 :: qtq (k.take i)) ++ rstC k y i := by
  have e : qtq k = qtq (k.take i) ++ qtq (k.drop i) := by
    unfold qtq
    rw [← List.flatMap_append, List.take_append_drop]
  rw [e]
  simp [rstC]
theorem rstC_end (k y : List UInt8) (i : Nat) (h : k.length ≤ i) : rstC k y i = 34 :: y := by
  unfold rstC
  rw [List.drop_eq_nil_of_le h]
  rfl
theorem rstC_step (k y : List UInt8) (i : Nat) (c : UInt8) (h : k[i]? = some c) : rstC k y i = sgq c ++ rstC k y (i + 1) := by
  obtain ⟨hi, rfl⟩ := List.getElem?_eq_some_iff.1 h
  unfold rstC
  rw [List.drop_eq_getElem_cons hi]
  simp only [qtq, List.flatMap_cons, List.append_assoc]
theorem qtqt_succ (k : List UInt8) (i : Nat) (c : UInt8) (h : k[i]? = some c) : qtq (k.take (i + 1)) = qtq (k.take i) ++ sgq c := by
  obtain ⟨hi, rfl⟩ := List.getElem?_eq_some_iff.1 h
  rw [List.take_succ_eq_append_getElem hi]
  simp only [qtq, List.flatMap_append, List.flatMap_cons, List.flatMap_nil, List.append_nil]
set_option maxRecDepth 100000 in
theorem shq_F : ∀ a : Fin 256, (shq (UInt8.ofNat a.val) ≠ 0 → a.val < 128 ∧ shq (UInt8.ofNat a.val) ≠ 117) ∧ (shq (UInt8.ofNat a.val) = 0 → a.val ≠ 34 ∧ a.val ≠ 92) := by decide +kernel
theorem shq_f (b : UInt8) : (shq b ≠ 0 → b.toNat < 128 ∧ shq b ≠ 117) ∧ (shq b = 0 → b.toNat ≠ 34 ∧ b.toNat ≠ 92) := by
  have h := shq_F ⟨b.toNat, b.toNat_lt⟩
  simp only [UInt8.ofNat_toNat] at h
  exact h
def ush (x : UInt8) : UInt8 := if x = 34 then 34 else if x = 92 then 92 else if x = 98 then 8 else if x = 102 then 12 else if x = 110 then 10 else if x = 114 then 13 else 9
set_option maxRecDepth 100000 in
theorem ush_F : ∀ a : Fin 256, shq (UInt8.ofNat a.val) ≠ 0 → ush (shq (UInt8.ofNat a.val)) = UInt8.ofNat a.val := by decide +kernel
theorem ush_shq (b : UInt8) (h : shq b ≠ 0) : ush (shq b) = b := by
  have h2 := ush_F ⟨b.toNat, b.toNat_lt⟩
  simp only [UInt8.ofNat_toNat] at h2
  exact h2 h
theorem shq_inj {i : Nat} (hi : i < 256) {c : UInt8} (h : shq (UInt8.ofNat i) = shq c) (hc : shq c ≠ 0) : i = c.toNat := by
  have h1 := ush_shq _ (h ▸ hc)
  have h2 := ush_shq c hc
  rw [h, h2] at h1
  rw [h1, u8t hi]
theorem sgq_two (c : UInt8) : (sgq c = [c] ∧ c.toNat ≠ 34 ∧ c.toNat ≠ 92) ∨ ∃ t, sgq c = 92 :: t ∧ 0 < t.length := by
  unfold sgq
  split
  · exact .inr ⟨_, rfl, by simp⟩
  · rename_i h0
    split
    · exact .inr ⟨_, rfl, by simp⟩
    · exact .inl ⟨rfl, (shq_f c).2 (by simpa using h0)⟩
theorem sgq_esc {c : UInt8} {t : List UInt8} (h : sgq c = 92 :: t) : (shq c ≠ 0 ∧ t = [shq c]) ∨ (c.toNat < 32 ∧ t = [117, 48, 48, hexd (c.toNat / 16), hexd (c.toNat % 16)]) := by
  unfold sgq at h
  split at h
  · rename_i h0
    exact .inl ⟨h0, (List.cons.inj h).2.symm⟩
  · rename_i h0
    split at h
    · rename_i h1
      exact .inr ⟨UInt8.lt_iff_toNat_lt.1 h1, (List.cons.inj h).2.symm⟩
    · exfalso
      have h2 := (List.cons.inj h).1
      have h3 := (shq_f c).2 (by simpa using h0)
      rw [h2] at h3
      exact h3.2 rfl
theorem rstC_case (k y : List UInt8) (i : Nat) (hi : i ≤ k.length) : (i = k.length ∧ ((rstC k y i).getD 0 0).toNat = 34) ∨ (∃ c, k[i]? = some c ∧ sgq c = [c] ∧ (rstC k y i).getD 0 0 = c ∧ c.toNat ≠ 34 ∧ c.toNat ≠ 92) ∨
    ∃ c t, k[i]? = some c ∧ sgq c = 92 :: t ∧ 0 < t.length ∧ ((rstC k y i).getD 0 0).toNat = 92 := by
  rcases Nat.lt_or_ge i k.length with h | h
  · obtain ⟨c, hc⟩ : ∃ c, k[i]? = some c := ⟨k[i], List.getElem?_eq_getElem h⟩
    rw [rstC_step k y i c hc]
    rcases sgq_two c with ⟨h1, h2, h3⟩ | ⟨t, h1, h2⟩
    · exact .inr (.inl ⟨c, hc, h1, by rw [h1]; rfl, h2, h3⟩)
    · exact .inr (.inr ⟨c, t, hc, h1, h2, by rw [h1]; rfl⟩)
  · refine .inl ⟨by omega, ?_⟩
    rw [rstC_end k y i h]
    rfl
theorem rstC_pos (k y : List UInt8) (i : Nat) : 0 < (rstC k y i).length := by
  unfold rstC
  simp only [List.length_append, List.length_cons]
  omega
theorem Cxr.permL {w0 w : World} {L L' : List (Nat × Obj)} {R : List Row} (h : Cxr w0 w L R) (hp : L.Perm L') : Cxr w0 w L' R :=
  ⟨h.ext, fun p h2 => h.own p (hp.mem_iff.2 h2), fun p h2 => h.lo p (hp.mem_iff.2 h2), (hp.map _).nodup_iff.1 h.nd, h.rows, fun r hr k hk hm => h.off r hr k hk ((hp.map _).mem_iff.2 hm), h.pw⟩
theorem Cxr.swapL {w0 w : World} {a b : Nat × Obj} {L : List (Nat × Obj)} {R : List Row} (h : Cxr w0 w (a :: b :: L) R) : Cxr w0 w (b :: a :: L) R := h.permL (List.Perm.swap _ _ _)
theorem getD_drop (s : List UInt8) (p k : Nat) : s.getD (p + k) 0 = (s.drop p).getD k 0 := by
  rw [List.getD, List.getD, List.getElem?_drop]
theorem take_drop_at (s a z : List UInt8) (p n : Nat) (h : s.drop p = a ++ z) (hn : n = a.length) : (s.take (p + n)).drop p = a := by
  subst hn
  rw [List.drop_take, h, show p + a.length - p = a.length by omega, List.take_left]
theorem drop_len (s a : List UInt8) (p : Nat) (h : s.drop p = a) (h0 : 0 < a.length) : s.length = p + a.length := by
  have := congrArg List.length h
  rw [List.length_drop] at this
  omega
def esV (c m : Nat) : Nat := c / 16 ^ (2 - m)
theorem es_step {c m : Nat} (hm : m < 2) (hc : c < 32) : ∃ d, d < 16 ∧ [hexd (c / 16), hexd (c % 16)].getD m 0 = hexd d ∧ esV c m ≤ 31 ∧ 16 * esV c m + d = esV c (m + 1) := by
  have : m = 0 ∨ m = 1 := by omega
  rcases this with rfl | rfl
  · exact ⟨c / 16, by omega, rfl, by unfold esV; simp; omega, by unfold esV; simp; omega⟩
  · exact ⟨c % 16, by omega, rfl, by unfold esV; simp; omega, by unfold esV; simp; omega⟩
def hexS : List UInt8 := [48, 49, 50, 51, 52, 53, 54, 55, 56, 57, 97, 98, 99, 100, 101, 102]
theorem hexS_get (n : Nat) (h : n < 16) : hexS.getD n 0 = hexd n := by
  have : ∀ a : Fin 16, hexS.getD a.val 0 = hexd a.val := by decide
  exact this ⟨n, h⟩
theorem hexd_inj {n m : Nat} (hn : n < 16) (hm : m < 16) (h : hexd n = hexd m) : n = m := by
  have : ∀ a b : Fin 16, hexd a.val = hexd b.val → a.val = b.val := by decide
  exact this ⟨n, hn⟩ ⟨m, hm⟩ h
end Go.Dk
end
