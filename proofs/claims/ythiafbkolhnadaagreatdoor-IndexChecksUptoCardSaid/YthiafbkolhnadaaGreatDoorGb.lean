/-
  The reference: what is a text.
-/
import Derived.Test.YthiafbkolhnadaaGreatDoorGa
import Derived.Test.YthiafbkolhnadaaGreatDoorPc
set_option linter.unusedSimpArgs false
set_option linter.unusedVariables false
namespace Go.Proofs.YthiafbkolhnadaaGreatDoor
open Go Go.Dk Go.RowKit Go.Lib
attribute [local irreducible] Go.wpList Go.Code.wp Go.bodyPost Go.wpStill
set_option maxRecDepth 10000 in
theorem c288 (r : Nat) (w0 : World) : Fc Tryz.prog 288 [.int .i64 r] w0 (IsB fun b => b = chN r) := by
  refine ret_enter Tryz.func288 rfl Tryz.ntmps288 rfl ?_
  have cx := Ctx.start w0
  refine wp_seq ?_
  refine wp_region_lit ?_
  refine s_val rfl rfl (v_assign rfl rfl) ?_
  refine wpList_nil ?_
  refine wp_seq ?_
  refine wp_region_lit ?_
  refine s_val rfl rfl (v_move rfl rfl) ?_
  refine s_val rfl rfl (v_cmp rfl rfl rfl rfl) ?_
  refine s_val rfl rfl (v_move rfl rfl) ?_
  refine s_gval rfl rfl rfl (by first | exact w_tt rfl | exact w_gt rfl) (fun hc => v_move rfl (by first | exact gve hc rfl | exact gve (and_l hc) rfl | exact gve (and_l (and_l hc)) rfl | rfl)) ?_
  refine s_gval rfl rfl rfl (by first | exact w_tt rfl | exact w_gt rfl) (fun hc => v_cmp rfl (by first | exact gve hc rfl | exact gve (and_l hc) rfl | exact gve (and_l (and_l hc)) rfl | rfl) rfl rfl) ?_
  refine s_val rfl rfl (v_and rfl rfl rfl rfl) ?_
  refine s_val rfl rfl (v_move rfl rfl) ?_
  refine s_gval rfl rfl rfl (by first | exact w_tt rfl | exact w_gt rfl) (fun hc => v_move rfl (by first | exact gve hc rfl | exact gve (and_l hc) rfl | exact gve (and_l (and_l hc)) rfl | rfl)) ?_
  refine s_gval rfl rfl rfl (by first | exact w_tt rfl | exact w_gt rfl) (fun hc => v_cmp rfl (by first | exact gve hc rfl | exact gve (and_l hc) rfl | exact gve (and_l (and_l hc)) rfl | rfl) rfl rfl) ?_
  refine s_gval rfl rfl rfl (by first | exact w_tt rfl | exact w_gt rfl) (fun hc => v_move rfl (by first | exact gve hc rfl | exact gve (and_l hc) rfl | exact gve (and_l (and_l hc)) rfl | rfl)) ?_
  refine s_gval rfl rfl rfl (by first | exact w_ff rfl | exact w_gf rfl) (fun hc => v_move rfl (by first | exact gve hc rfl | exact gve (and_l hc) rfl | exact gve (and_l (and_l hc)) rfl | rfl)) ?_
  refine s_gval rfl rfl rfl (by first | exact w_ff rfl | exact w_gf rfl) (fun hc => v_cmp rfl (by first | exact gve hc rfl | exact gve (and_l hc) rfl | exact gve (and_l (and_l hc)) rfl | rfl) rfl rfl) ?_
  refine s_gval rfl rfl rfl (by first | exact w_tt rfl | exact w_gt rfl) (fun hc => v_or_g hc rfl rfl rfl rfl) ?_
  refine s_val rfl rfl (v_and rfl rfl rfl rfl) ?_
  refine s_val rfl rfl (v_assign rfl rfl) ?_
  refine wpList_nil ?_
  refine wp_ret ?_
  refine ret_tmp Tryz.results288 rfl ?_
  refine ⟨cx.ext, _, rfl, ?_⟩
  show (_ : Bool) = chN r
  rw [Bool.eq_iff_iff, chN_iff]
  simp only [Bool.and_eq_true, Bool.or_eq_true, decide_eq_true_eq]
  omega

set_option maxRecDepth 10000 in
theorem c192 (r : Nat) (w0 : World) : Fc Tryz.prog 192 [.int .i64 r] w0 (IsB fun b => b = chN r) := by
  refine ret_enter Tryz.func192 rfl Tryz.ntmps192 rfl ?_
  have cx := Ctx.start w0
  refine wp_seq ?_
  refine wp_region_lit ?_
  refine s_val rfl rfl (v_assign rfl rfl) ?_
  refine wpList_nil ?_
  refine wp_seq ?_
  refine wp_region_lit ?_
  refine s_val rfl rfl (v_move rfl rfl) ?_
  refine s_val rfl rfl (v_cmp rfl rfl rfl rfl) ?_
  refine s_val rfl rfl (v_move rfl rfl) ?_
  refine s_gval rfl rfl rfl (by first | exact w_tt rfl | exact w_gt rfl) (fun hc => v_move rfl (by first | exact gve hc rfl | exact gve (and_l hc) rfl | exact gve (and_l (and_l hc)) rfl | rfl)) ?_
  refine s_gval rfl rfl rfl (by first | exact w_tt rfl | exact w_gt rfl) (fun hc => v_cmp rfl (by first | exact gve hc rfl | exact gve (and_l hc) rfl | exact gve (and_l (and_l hc)) rfl | rfl) rfl rfl) ?_
  refine s_val rfl rfl (v_and rfl rfl rfl rfl) ?_
  refine s_val rfl rfl (v_move rfl rfl) ?_
  refine s_gval rfl rfl rfl (by first | exact w_tt rfl | exact w_gt rfl) (fun hc => v_move rfl (by first | exact gve hc rfl | exact gve (and_l hc) rfl | exact gve (and_l (and_l hc)) rfl | rfl)) ?_
  refine s_gval rfl rfl rfl (by first | exact w_tt rfl | exact w_gt rfl) (fun hc => v_cmp rfl (by first | exact gve hc rfl | exact gve (and_l hc) rfl | exact gve (and_l (and_l hc)) rfl | rfl) rfl rfl) ?_
  refine s_gval rfl rfl rfl (by first | exact w_tt rfl | exact w_gt rfl) (fun hc => v_move rfl (by first | exact gve hc rfl | exact gve (and_l hc) rfl | exact gve (and_l (and_l hc)) rfl | rfl)) ?_
  refine s_gval rfl rfl rfl (by first | exact w_ff rfl | exact w_gf rfl) (fun hc => v_move rfl (by first | exact gve hc rfl | exact gve (and_l hc) rfl | exact gve (and_l (and_l hc)) rfl | rfl)) ?_
  refine s_gval rfl rfl rfl (by first | exact w_ff rfl | exact w_gf rfl) (fun hc => v_cmp rfl (by first | exact gve hc rfl | exact gve (and_l hc) rfl | exact gve (and_l (and_l hc)) rfl | rfl) rfl rfl) ?_
  refine s_gval rfl rfl rfl (by first | exact w_tt rfl | exact w_gt rfl) (fun hc => v_or_g hc rfl rfl rfl rfl) ?_
  refine s_val rfl rfl (v_and rfl rfl rfl rfl) ?_
  refine s_val rfl rfl (v_assign rfl rfl) ?_
  refine wpList_nil ?_
  refine wp_ret ?_
  refine ret_tmp Tryz.results192 rfl ?_
  refine ⟨cx.ext, _, rfl, ?_⟩
  show (_ : Bool) = chN r
  rw [Bool.eq_iff_iff, chN_iff]
  simp only [Bool.and_eq_true, Bool.or_eq_true, decide_eq_true_eq]
  omega

set_option maxRecDepth 10000 in
theorem c212 (r : Nat) (w0 : World) (hr : r < 4294967296) : Fc Tryz.prog 212 [.int .i64 r] w0 (fun v _ => v = .tuple #[.string (bs (encN r)), .int .i64 (if chN r = true then 0 else 2)]) := by
  refine ret_enter Tryz.func212 rfl Tryz.ntmps212 rfl ?_
  have cx := Ctx.start w0
  refine wp_seq ?_
  refine wp_region_lit ?_
  refine s_val rfl rfl (v_assign rfl rfl) ?_
  refine s_val rfl rfl (v_assign rfl rfl) ?_
  refine wpList_nil ?_
  refine wp_seq ?_
  refine wp_block ?_
  refine wp_seq ?_
  refine wp_region_lit ?_
  refine s_val rfl rfl (v_move rfl rfl) ?_
  refine s_fnB cx (c288 _ _) Tryz.func288 rfl rfl rfl rfl rfl rfl ?_; intro q6 w cx hw6 hp6
  refine s_val rfl rfl (v_not rfl rfl) ?_
  refine s_val rfl rfl (v_assign rfl rfl) ?_
  refine wpList_nil ?_
  refine c_split rfl (fun hc4 => ?_) (fun hc4 => ?_)
  · skip
    have hch : chN r = false := by rw [← hp6]; simpa using hc4
    refine wp_seq ?_
    refine wp_region_lit ?_
    refine s_val rfl rfl (v_assign rfl rfl) ?_
    refine s_val rfl rfl (v_assign rfl rfl) ?_
    refine wpList_nil ?_
    refine wp_ret ?_
    refine ret_tmp2 Tryz.results212 rfl rfl ?_
    have he : encN r = [] := by unfold encN; rw [if_pos hch]
    have h2 : (2 : Int) = (if chN r = true then 0 else 2) := by rw [if_neg (by rw [hch]; exact Bool.noConfusion)]
    refine ⟨cx.ext, ?_⟩
    refine tup_s ?_ h2 rfl rfl
    rw [he]
    rfl
  · skip
    have hch : chN r = true := by rw [← hp6]; simpa using hc4
    refine wp_seq ?_
    refine wp_region_lit ?_
    refine s_val rfl rfl (v_move rfl rfl) ?_
    refine s_val rfl rfl (v_cmp rfl rfl rfl rfl) ?_
    refine s_val rfl rfl (v_assign rfl rfl) ?_
    refine wpList_nil ?_
    refine c_split rfl (fun hc8 => ?_) (fun hc8 => ?_)
    · skip
      try simp only [Bool.and_eq_true, Bool.or_eq_true, Bool.and_eq_false_iff, Bool.or_eq_false_iff, Bool.not_eq_true', Bool.not_eq_false', decide_eq_true_eq, decide_eq_false_iff_not, beq_iff_eq, beq_eq_false_iff_ne, bne_iff_ne, bne_eq_false_iff_eq, ne_eq, Classical.not_not] at hc8
      refine wp_seq ?_
      refine wp_region_lit ?_
      refine s_val rfl rfl (v_move rfl rfl) ?_
      refine s_val rfl rfl (v_conv rfl rfl Tryz.underlying3 Tryz.underlying5) ?_
      refine s_bsl1 cx Tryz.underlying79 sz5 z5 rfl rfl rfl rfl rfl rfl rfl rfl ?_; intro b13 w cx hb13 hw13
      refine s_val rfl rfl (v_b2s rfl Tryz.underlying79 Tryz.underlying5 Tryz.underlying9 (ns := [_]) (cx.row 0 rfl) rfl rfl) ?_
      refine s_val rfl rfl (v_assign rfl rfl) ?_
      refine s_val rfl rfl (v_assign rfl rfl) ?_
      refine wpList_nil ?_
      refine wp_ret ?_
      refine ret_tmp2 Tryz.results212 rfl rfl ?_
      have he : encN r = [UInt8.ofNat r] := by
        unfold encN
        rw [if_neg (by rw [hch]; exact Bool.noConfusion)]; rw [if_pos (by omega)]
      have h2 : (0 : Int) = (if chN r = true then 0 else 2) := by rw [if_pos hch]
      refine ⟨cx.ext, ?_⟩
      refine tup_s ?_ h2 rfl rfl
      rw [he]
      exact strOf_w1 (by omega)
    · skip
      try simp only [Bool.and_eq_true, Bool.or_eq_true, Bool.and_eq_false_iff, Bool.or_eq_false_iff, Bool.not_eq_true', Bool.not_eq_false', decide_eq_true_eq, decide_eq_false_iff_not, beq_iff_eq, beq_eq_false_iff_ne, bne_iff_ne, bne_eq_false_iff_eq, ne_eq, Classical.not_not] at hc8
      refine wp_seq ?_
      refine wp_region_lit ?_
      refine s_val rfl rfl (v_move rfl rfl) ?_
      refine s_val rfl rfl (v_cmp rfl rfl rfl rfl) ?_
      refine s_val rfl rfl (v_assign rfl rfl) ?_
      refine wpList_nil ?_
      refine c_split rfl (fun hc15 => ?_) (fun hc15 => ?_)
      · skip
        try simp only [Bool.and_eq_true, Bool.or_eq_true, Bool.and_eq_false_iff, Bool.or_eq_false_iff, Bool.not_eq_true', Bool.not_eq_false', decide_eq_true_eq, decide_eq_false_iff_not, beq_iff_eq, beq_eq_false_iff_ne, bne_iff_ne, bne_eq_false_iff_eq, ne_eq, Classical.not_not] at hc15
        refine wp_seq ?_
        refine wp_region_lit ?_
        refine s_val rfl rfl (v_move rfl rfl) ?_
        refine s_val rfl rfl (v_shr rfl rfl rfl (by decide)) ?_
        refine s_val rfl rfl (v_bor rfl rfl rfl) ?_
        refine s_val rfl rfl (v_conv rfl rfl Tryz.underlying3 Tryz.underlying5) ?_
        refine s_val rfl rfl (v_move rfl rfl) ?_
        refine s_val rfl rfl (v_band rfl rfl rfl) ?_
        refine s_val rfl rfl (v_bor rfl rfl rfl) ?_
        refine s_val rfl rfl (v_conv rfl rfl Tryz.underlying3 Tryz.underlying5) ?_
        refine s_bsl2 cx Tryz.underlying79 sz5 z5 rfl rfl rfl rfl rfl rfl rfl ?_; intro b26 w cx hb26 hw26
        refine s_val rfl rfl (v_b2s rfl Tryz.underlying79 Tryz.underlying5 Tryz.underlying9 (ns := [_, _]) (cx.row 0 rfl) rfl rfl) ?_
        refine s_val rfl rfl (v_assign rfl rfl) ?_
        refine s_val rfl rfl (v_assign rfl rfl) ?_
        refine wpList_nil ?_
        refine wp_ret ?_
        refine ret_tmp2 Tryz.results212 rfl rfl ?_
        have he : encN r = [UInt8.ofNat (192 + r / 64), UInt8.ofNat (128 + r % 64)] := by
          unfold encN
          rw [if_neg (by rw [hch]; exact Bool.noConfusion)]; rw [if_neg (by omega)]; rw [if_pos (by omega)]
        have h2 : (0 : Int) = (if chN r = true then 0 else 2) := by rw [if_pos hch]
        refine ⟨cx.ext, ?_⟩
        refine tup_s ?_ h2 rfl rfl
        rw [he]
        rw [show shr IntKind.i64 (r : Int) (Int.toNat 6) = ((r / 64 : Nat) : Int) from shrN 6 (by decide), and63N hr, or192 (by omega), or128 (by omega)]
        exact strOf_w2 (by omega) (by omega)
      · skip
        try simp only [Bool.and_eq_true, Bool.or_eq_true, Bool.and_eq_false_iff, Bool.or_eq_false_iff, Bool.not_eq_true', Bool.not_eq_false', decide_eq_true_eq, decide_eq_false_iff_not, beq_iff_eq, beq_eq_false_iff_ne, bne_iff_ne, bne_eq_false_iff_eq, ne_eq, Classical.not_not] at hc15
        refine wp_seq ?_
        refine wp_region_lit ?_
        refine s_val rfl rfl (v_move rfl rfl) ?_
        refine s_val rfl rfl (v_cmp rfl rfl rfl rfl) ?_
        refine s_val rfl rfl (v_assign rfl rfl) ?_
        refine wpList_nil ?_
        refine c_split rfl (fun hc28 => ?_) (fun hc28 => ?_)
        · skip
          try simp only [Bool.and_eq_true, Bool.or_eq_true, Bool.and_eq_false_iff, Bool.or_eq_false_iff, Bool.not_eq_true', Bool.not_eq_false', decide_eq_true_eq, decide_eq_false_iff_not, beq_iff_eq, beq_eq_false_iff_ne, bne_iff_ne, bne_eq_false_iff_eq, ne_eq, Classical.not_not] at hc28
          refine wp_seq ?_
          refine wp_region_lit ?_
          refine s_val rfl rfl (v_move rfl rfl) ?_
          refine s_val rfl rfl (v_shr rfl rfl rfl (by decide)) ?_
          refine s_val rfl rfl (v_bor rfl rfl rfl) ?_
          refine s_val rfl rfl (v_conv rfl rfl Tryz.underlying3 Tryz.underlying5) ?_
          refine s_val rfl rfl (v_move rfl rfl) ?_
          refine s_val rfl rfl (v_shr rfl rfl rfl (by decide)) ?_
          refine s_val rfl rfl (v_band rfl rfl rfl) ?_
          refine s_val rfl rfl (v_bor rfl rfl rfl) ?_
          refine s_val rfl rfl (v_conv rfl rfl Tryz.underlying3 Tryz.underlying5) ?_
          refine s_val rfl rfl (v_move rfl rfl) ?_
          refine s_val rfl rfl (v_band rfl rfl rfl) ?_
          refine s_val rfl rfl (v_bor rfl rfl rfl) ?_
          refine s_val rfl rfl (v_conv rfl rfl Tryz.underlying3 Tryz.underlying5) ?_
          refine s_bsl3 cx Tryz.underlying79 sz5 z5 rfl rfl rfl rfl rfl rfl rfl rfl rfl ?_; intro b44 w cx hb44 hw44
          refine s_val rfl rfl (v_b2s rfl Tryz.underlying79 Tryz.underlying5 Tryz.underlying9 (ns := [_, _, _]) (cx.row 0 rfl) rfl rfl) ?_
          refine s_val rfl rfl (v_assign rfl rfl) ?_
          refine s_val rfl rfl (v_assign rfl rfl) ?_
          refine wpList_nil ?_
          refine wp_ret ?_
          refine ret_tmp2 Tryz.results212 rfl rfl ?_
          have he : encN r = [UInt8.ofNat (224 + r / 4096), UInt8.ofNat (128 + r / 64 % 64), UInt8.ofNat (128 + r % 64)] := by
            unfold encN
            rw [if_neg (by rw [hch]; exact Bool.noConfusion)]; rw [if_neg (by omega)]; rw [if_neg (by omega)]; rw [if_pos (by omega)]
          have h2 : (0 : Int) = (if chN r = true then 0 else 2) := by rw [if_pos hch]
          refine ⟨cx.ext, ?_⟩
          refine tup_s ?_ h2 rfl rfl
          rw [he]
          rw [show shr IntKind.i64 (r : Int) (Int.toNat 12) = ((r / 4096 : Nat) : Int) from shrN 12 (by decide), show shr IntKind.i64 (r : Int) (Int.toNat 6) = ((r / 64 : Nat) : Int) from shrN 6 (by decide), and63N hr, and63N (by omega), or224 (by omega), or128 (by omega), or128 (by omega)]
          exact strOf_w3 (by omega) (by omega) (by omega)
        · skip
          try simp only [Bool.and_eq_true, Bool.or_eq_true, Bool.and_eq_false_iff, Bool.or_eq_false_iff, Bool.not_eq_true', Bool.not_eq_false', decide_eq_true_eq, decide_eq_false_iff_not, beq_iff_eq, beq_eq_false_iff_ne, bne_iff_ne, bne_eq_false_iff_eq, ne_eq, Classical.not_not] at hc28
          refine wp_skip ?_
          refine wp_seq ?_
          refine wp_region_lit ?_
          refine s_val rfl rfl (v_move rfl rfl) ?_
          refine s_val rfl rfl (v_shr rfl rfl rfl (by decide)) ?_
          refine s_val rfl rfl (v_bor rfl rfl rfl) ?_
          refine s_val rfl rfl (v_conv rfl rfl Tryz.underlying3 Tryz.underlying5) ?_
          refine s_val rfl rfl (v_move rfl rfl) ?_
          refine s_val rfl rfl (v_shr rfl rfl rfl (by decide)) ?_
          refine s_val rfl rfl (v_band rfl rfl rfl) ?_
          refine s_val rfl rfl (v_bor rfl rfl rfl) ?_
          refine s_val rfl rfl (v_conv rfl rfl Tryz.underlying3 Tryz.underlying5) ?_
          refine s_val rfl rfl (v_move rfl rfl) ?_
          refine s_val rfl rfl (v_shr rfl rfl rfl (by decide)) ?_
          refine s_val rfl rfl (v_band rfl rfl rfl) ?_
          refine s_val rfl rfl (v_bor rfl rfl rfl) ?_
          refine s_val rfl rfl (v_conv rfl rfl Tryz.underlying3 Tryz.underlying5) ?_
          refine s_val rfl rfl (v_move rfl rfl) ?_
          refine s_val rfl rfl (v_band rfl rfl rfl) ?_
          refine s_val rfl rfl (v_bor rfl rfl rfl) ?_
          refine s_val rfl rfl (v_conv rfl rfl Tryz.underlying3 Tryz.underlying5) ?_
          refine s_bsl4 cx Tryz.underlying79 sz5 z5 rfl rfl rfl rfl rfl rfl rfl rfl rfl rfl rfl ?_; intro b64 w cx hb64 hw64
          refine s_val rfl rfl (v_b2s rfl Tryz.underlying79 Tryz.underlying5 Tryz.underlying9 (ns := [_, _, _, _]) (cx.row 0 rfl) rfl rfl) ?_
          refine s_val rfl rfl (v_assign rfl rfl) ?_
          refine s_val rfl rfl (v_assign rfl rfl) ?_
          refine wpList_nil ?_
          refine wp_ret ?_
          refine ret_tmp2 Tryz.results212 rfl rfl ?_
          have hle := ((chN_iff r).1 hch).1
          have he : encN r = [UInt8.ofNat (240 + r / 262144), UInt8.ofNat (128 + r / 4096 % 64), UInt8.ofNat (128 + r / 64 % 64), UInt8.ofNat (128 + r % 64)] := by
            unfold encN
            rw [if_neg (by rw [hch]; exact Bool.noConfusion)]; rw [if_neg (by omega)]; rw [if_neg (by omega)]; rw [if_neg (by omega)]
          have h2 : (0 : Int) = (if chN r = true then 0 else 2) := by rw [if_pos hch]
          refine ⟨cx.ext, ?_⟩
          refine tup_s ?_ h2 rfl rfl
          rw [he]
          rw [show shr IntKind.i64 (r : Int) (Int.toNat 18) = ((r / 262144 : Nat) : Int) from shrN 18 (by decide), show shr IntKind.i64 (r : Int) (Int.toNat 12) = ((r / 4096 : Nat) : Int) from shrN 12 (by decide), show shr IntKind.i64 (r : Int) (Int.toNat 6) = ((r / 64 : Nat) : Int) from shrN 6 (by decide), and63N hr, and63N (by omega), and63N (by omega), or240 (by omega), or128 (by omega), or128 (by omega), or128 (by omega)]
          exact strOf_w4 (by omega) (by omega) (by omega) (by omega)

set_option maxRecDepth 10000 in
theorem c152 (s : ByteArray) (a : Nat) (w0 : World) (hs : s.size ≤ 1073741824) (ha : a < s.size) : Fc Tryz.prog 152 [.string s, .int .i64 a] w0 (fun v _ => ∃ r : Int, v = .tuple #[.int .i64 r, .int .i64 (szAt s a)]) := by
  refine ret_enter Tryz.func152 rfl Tryz.ntmps152 rfl ?_
  have cx := Ctx.start w0
  refine wp_seq ?_
  refine wp_region_lit ?_
  refine s_val rfl rfl (v_assign rfl rfl) ?_
  refine s_val rfl rfl (v_assign rfl rfl) ?_
  refine wpList_nil ?_
  refine wp_seq ?_
  refine wp_seq ?_
  refine wp_region_lit ?_
  refine s_val rfl rfl (v_move rfl rfl) ?_
  refine s_val rfl rfl (v_cmp rfl rfl rfl rfl) ?_
  refine s_val rfl rfl (v_move rfl rfl) ?_
  refine s_gval rfl rfl rfl (by first | exact w_ff rfl | exact w_gf rfl) (fun hc => v_move rfl (by first | exact gve hc rfl | exact gve (and_l hc) rfl | exact gve (and_l (and_l hc)) rfl | rfl)) ?_
  refine s_gval rfl rfl rfl (by first | exact w_ff rfl | exact w_gf rfl) (fun hc => v_move rfl (by first | exact gve hc rfl | exact gve (and_l hc) rfl | exact gve (and_l (and_l hc)) rfl | rfl)) ?_
  refine s_gval rfl rfl rfl (by first | exact w_ff rfl | exact w_gf rfl) (fun hc => v_lenString rfl (by first | exact gve hc rfl | exact gve (and_l hc) rfl | exact gve (and_l (and_l hc)) rfl | rfl) Tryz.underlying9) ?_
  refine s_gval rfl rfl rfl (by first | exact w_ff rfl | exact w_gf rfl) (fun hc => v_cmp rfl (by first | exact gve hc rfl | exact gve (and_l hc) rfl | exact gve (and_l (and_l hc)) rfl | rfl) (by first | exact gve hc rfl | exact gve (and_l hc) rfl | exact gve (and_l (and_l hc)) rfl | rfl) rfl) ?_
  refine s_val rfl rfl (v_or rfl rfl rfl rfl) ?_
  refine wpList_nil ?_
  refine c_split rfl (fun hc19 => ?_) (fun hc19 => ?_)
  · skip
    try simp only [Bool.and_eq_true, Bool.or_eq_true, Bool.and_eq_false_iff, Bool.or_eq_false_iff, Bool.not_eq_true', Bool.not_eq_false', decide_eq_true_eq, decide_eq_false_iff_not, beq_iff_eq, beq_eq_false_iff_ne, bne_iff_ne, bne_eq_false_iff_eq, ne_eq, Classical.not_not] at hc19
    refine wp_seq ?_
    refine wp_region_lit ?_
    refine s_val rfl rfl (v_assign rfl rfl) ?_
    refine s_val rfl rfl (v_assign rfl rfl) ?_
    refine wpList_nil ?_
    refine wp_ret ?_
    refine ret_tmp2 Tryz.results152 rfl rfl ?_
    exfalso
    omega
  · skip
    try simp only [Bool.and_eq_true, Bool.or_eq_true, Bool.and_eq_false_iff, Bool.or_eq_false_iff, Bool.not_eq_true', Bool.not_eq_false', decide_eq_true_eq, decide_eq_false_iff_not, beq_iff_eq, beq_eq_false_iff_ne, bne_iff_ne, bne_eq_false_iff_eq, ne_eq, Classical.not_not] at hc19
    refine wp_skip ?_
    refine wp_seq ?_
    refine wp_region_lit ?_
    refine s_val rfl rfl (v_move rfl rfl) ?_
    refine s_val rfl rfl (v_move rfl rfl) ?_
    refine s_val rfl rfl (v_idxStr rfl rfl rfl Tryz.underlying9 (by omega) (by omega)) ?_
    refine s_val rfl rfl (v_ofByte rfl rfl Tryz.underlying5 Tryz.underlying3 (by first | exact byteAt_lo _ _ | omega) (by first | exact byteAt_hi _ _ | omega)) ?_
    refine s_val rfl rfl (v_assign rfl rfl) ?_
    refine wpList_nil ?_
    refine wp_seq ?_
    refine wp_region_lit ?_
    refine s_val rfl rfl (v_move rfl rfl) ?_
    refine s_val rfl rfl (v_assign rfl rfl) ?_
    refine s_val rfl rfl (v_assign rfl rfl) ?_
    refine wpList_nil ?_
    refine w_cut (fun f w1 => ∃ n0 r0 : Nat, hdR (bA s a) = (n0, r0) ∧ f 0 = .string s ∧ f 1 = .int .i64 a ∧ f 7 = .int .i64 n0 ∧ f 8 = .int .i64 r0 ∧ Ctx w0 w1 []) ?_ ?_
    · skip
      refine wp_block ?_
      refine wp_seq ?_
      refine wp_region_lit ?_
      refine s_val rfl rfl (v_move rfl rfl) ?_
      refine s_val rfl rfl (v_cmp rfl rfl rfl rfl) ?_
      refine s_val rfl rfl (v_assign rfl rfl) ?_
      refine wpList_nil ?_
      refine c_split rfl (fun hc25 => ?_) (fun hc25 => ?_)
      · skip
        try simp only [Bool.and_eq_true, Bool.or_eq_true, Bool.and_eq_false_iff, Bool.or_eq_false_iff, Bool.not_eq_true', Bool.not_eq_false', decide_eq_true_eq, decide_eq_false_iff_not, beq_iff_eq, beq_eq_false_iff_ne, bne_iff_ne, bne_eq_false_iff_eq, ne_eq, Classical.not_not] at hc25
        refine wp_region_lit ?_
        refine s_val rfl rfl (v_move rfl rfl) ?_
        refine s_val rfl rfl (v_band rfl rfl rfl) ?_
        refine s_val rfl rfl (v_assign rfl rfl) ?_
        refine s_val rfl rfl (v_assign rfl rfl) ?_
        refine wpList_nil ?_
        first
        | exact ⟨_, rfl, 4, bA s a % 8, by unfold hdR; rw [if_pos (by rw [byteAt_bA] at *; omega)], rfl, rfl, rfl, congrArg (Value.int .i64) (by rw [byteAt_bA]; exact and7 (bA_lt _ _)), cx⟩
        | exact ⟨_, rfl, 3, bA s a % 16, by unfold hdR; rw [if_neg (by rw [byteAt_bA] at *; omega), if_pos (by rw [byteAt_bA] at *; omega)], rfl, rfl, rfl, congrArg (Value.int .i64) (by rw [byteAt_bA]; exact and15 (bA_lt _ _)), cx⟩
        | exact ⟨_, rfl, 2, bA s a % 32, by unfold hdR; rw [if_neg (by rw [byteAt_bA] at *; omega), if_neg (by rw [byteAt_bA] at *; omega), if_pos (by rw [byteAt_bA] at *; omega)], rfl, rfl, rfl, congrArg (Value.int .i64) (by rw [byteAt_bA]; exact and31 (bA_lt _ _)), cx⟩
        | exact ⟨_, rfl, 1, bA s a, by unfold hdR; rw [if_neg (by rw [byteAt_bA] at *; omega), if_neg (by rw [byteAt_bA] at *; omega), if_neg (by rw [byteAt_bA] at *; omega)], rfl, rfl, rfl, rfl, cx⟩
      · skip
        try simp only [Bool.and_eq_true, Bool.or_eq_true, Bool.and_eq_false_iff, Bool.or_eq_false_iff, Bool.not_eq_true', Bool.not_eq_false', decide_eq_true_eq, decide_eq_false_iff_not, beq_iff_eq, beq_eq_false_iff_ne, bne_iff_ne, bne_eq_false_iff_eq, ne_eq, Classical.not_not] at hc25
        refine wp_seq ?_
        refine wp_region_lit ?_
        refine s_val rfl rfl (v_move rfl rfl) ?_
        refine s_val rfl rfl (v_cmp rfl rfl rfl rfl) ?_
        refine s_val rfl rfl (v_assign rfl rfl) ?_
        refine wpList_nil ?_
        refine c_split rfl (fun hc30 => ?_) (fun hc30 => ?_)
        · skip
          try simp only [Bool.and_eq_true, Bool.or_eq_true, Bool.and_eq_false_iff, Bool.or_eq_false_iff, Bool.not_eq_true', Bool.not_eq_false', decide_eq_true_eq, decide_eq_false_iff_not, beq_iff_eq, beq_eq_false_iff_ne, bne_iff_ne, bne_eq_false_iff_eq, ne_eq, Classical.not_not] at hc30
          refine wp_region_lit ?_
          refine s_val rfl rfl (v_move rfl rfl) ?_
          refine s_val rfl rfl (v_band rfl rfl rfl) ?_
          refine s_val rfl rfl (v_assign rfl rfl) ?_
          refine s_val rfl rfl (v_assign rfl rfl) ?_
          refine wpList_nil ?_
          first
          | exact ⟨_, rfl, 4, bA s a % 8, by unfold hdR; rw [if_pos (by rw [byteAt_bA] at *; omega)], rfl, rfl, rfl, congrArg (Value.int .i64) (by rw [byteAt_bA]; exact and7 (bA_lt _ _)), cx⟩
          | exact ⟨_, rfl, 3, bA s a % 16, by unfold hdR; rw [if_neg (by rw [byteAt_bA] at *; omega), if_pos (by rw [byteAt_bA] at *; omega)], rfl, rfl, rfl, congrArg (Value.int .i64) (by rw [byteAt_bA]; exact and15 (bA_lt _ _)), cx⟩
          | exact ⟨_, rfl, 2, bA s a % 32, by unfold hdR; rw [if_neg (by rw [byteAt_bA] at *; omega), if_neg (by rw [byteAt_bA] at *; omega), if_pos (by rw [byteAt_bA] at *; omega)], rfl, rfl, rfl, congrArg (Value.int .i64) (by rw [byteAt_bA]; exact and31 (bA_lt _ _)), cx⟩
          | exact ⟨_, rfl, 1, bA s a, by unfold hdR; rw [if_neg (by rw [byteAt_bA] at *; omega), if_neg (by rw [byteAt_bA] at *; omega), if_neg (by rw [byteAt_bA] at *; omega)], rfl, rfl, rfl, rfl, cx⟩
        · skip
          try simp only [Bool.and_eq_true, Bool.or_eq_true, Bool.and_eq_false_iff, Bool.or_eq_false_iff, Bool.not_eq_true', Bool.not_eq_false', decide_eq_true_eq, decide_eq_false_iff_not, beq_iff_eq, beq_eq_false_iff_ne, bne_iff_ne, bne_eq_false_iff_eq, ne_eq, Classical.not_not] at hc30
          refine wp_seq ?_
          refine wp_region_lit ?_
          refine s_val rfl rfl (v_move rfl rfl) ?_
          refine s_val rfl rfl (v_cmp rfl rfl rfl rfl) ?_
          refine s_val rfl rfl (v_assign rfl rfl) ?_
          refine wpList_nil ?_
          refine c_split rfl (fun hc35 => ?_) (fun hc35 => ?_)
          · skip
            try simp only [Bool.and_eq_true, Bool.or_eq_true, Bool.and_eq_false_iff, Bool.or_eq_false_iff, Bool.not_eq_true', Bool.not_eq_false', decide_eq_true_eq, decide_eq_false_iff_not, beq_iff_eq, beq_eq_false_iff_ne, bne_iff_ne, bne_eq_false_iff_eq, ne_eq, Classical.not_not] at hc35
            refine wp_region_lit ?_
            refine s_val rfl rfl (v_move rfl rfl) ?_
            refine s_val rfl rfl (v_band rfl rfl rfl) ?_
            refine s_val rfl rfl (v_assign rfl rfl) ?_
            refine s_val rfl rfl (v_assign rfl rfl) ?_
            refine wpList_nil ?_
            first
            | exact ⟨_, rfl, 4, bA s a % 8, by unfold hdR; rw [if_pos (by rw [byteAt_bA] at *; omega)], rfl, rfl, rfl, congrArg (Value.int .i64) (by rw [byteAt_bA]; exact and7 (bA_lt _ _)), cx⟩
            | exact ⟨_, rfl, 3, bA s a % 16, by unfold hdR; rw [if_neg (by rw [byteAt_bA] at *; omega), if_pos (by rw [byteAt_bA] at *; omega)], rfl, rfl, rfl, congrArg (Value.int .i64) (by rw [byteAt_bA]; exact and15 (bA_lt _ _)), cx⟩
            | exact ⟨_, rfl, 2, bA s a % 32, by unfold hdR; rw [if_neg (by rw [byteAt_bA] at *; omega), if_neg (by rw [byteAt_bA] at *; omega), if_pos (by rw [byteAt_bA] at *; omega)], rfl, rfl, rfl, congrArg (Value.int .i64) (by rw [byteAt_bA]; exact and31 (bA_lt _ _)), cx⟩
            | exact ⟨_, rfl, 1, bA s a, by unfold hdR; rw [if_neg (by rw [byteAt_bA] at *; omega), if_neg (by rw [byteAt_bA] at *; omega), if_neg (by rw [byteAt_bA] at *; omega)], rfl, rfl, rfl, rfl, cx⟩
          · skip
            try simp only [Bool.and_eq_true, Bool.or_eq_true, Bool.and_eq_false_iff, Bool.or_eq_false_iff, Bool.not_eq_true', Bool.not_eq_false', decide_eq_true_eq, decide_eq_false_iff_not, beq_iff_eq, beq_eq_false_iff_ne, bne_iff_ne, bne_eq_false_iff_eq, ne_eq, Classical.not_not] at hc35
            refine wp_skip ?_
            first
            | exact ⟨_, rfl, 4, bA s a % 8, by unfold hdR; rw [if_pos (by rw [byteAt_bA] at *; omega)], rfl, rfl, rfl, congrArg (Value.int .i64) (by rw [byteAt_bA]; exact and7 (bA_lt _ _)), cx⟩
            | exact ⟨_, rfl, 3, bA s a % 16, by unfold hdR; rw [if_neg (by rw [byteAt_bA] at *; omega), if_pos (by rw [byteAt_bA] at *; omega)], rfl, rfl, rfl, congrArg (Value.int .i64) (by rw [byteAt_bA]; exact and15 (bA_lt _ _)), cx⟩
            | exact ⟨_, rfl, 2, bA s a % 32, by unfold hdR; rw [if_neg (by rw [byteAt_bA] at *; omega), if_neg (by rw [byteAt_bA] at *; omega), if_pos (by rw [byteAt_bA] at *; omega)], rfl, rfl, rfl, congrArg (Value.int .i64) (by rw [byteAt_bA]; exact and31 (bA_lt _ _)), cx⟩
            | exact ⟨_, rfl, 1, bA s a, by unfold hdR; rw [if_neg (by rw [byteAt_bA] at *; omega), if_neg (by rw [byteAt_bA] at *; omega), if_neg (by rw [byteAt_bA] at *; omega)], rfl, rfl, rfl, rfl, cx⟩
    intro f w hJ
    obtain ⟨n0, r0, hhd, hs0, hs1, hs7, hs8, cx⟩ := hJ
    have hn0 := hdR_lo (bA s a)
    have hb9 := bA_lt s a
    rw [hhd] at hn0
    simp only at hn0
    refine wp_seq ?_
    refine wp_seq ?_
    refine wp_region_lit ?_
    refine s_val rfl rfl (v_move rfl hs0) ?_
    refine s_val rfl rfl (v_lenString rfl rfl Tryz.underlying9) ?_
    refine s_val rfl rfl (v_move rfl hs1) ?_
    refine s_val rfl rfl (v_sub rfl rfl rfl (by omega) (by omega)) ?_
    refine s_val rfl rfl (v_move rfl hs7) ?_
    refine s_val rfl rfl (v_cmp rfl rfl rfl rfl) ?_
    refine wpList_nil ?_
    refine c_split rfl (fun hc45 => ?_) (fun hc45 => ?_)
    · skip
      try simp only [Bool.and_eq_true, Bool.or_eq_true, Bool.and_eq_false_iff, Bool.or_eq_false_iff, Bool.not_eq_true', Bool.not_eq_false', decide_eq_true_eq, decide_eq_false_iff_not, beq_iff_eq, beq_eq_false_iff_ne, bne_iff_ne, bne_eq_false_iff_eq, ne_eq, Classical.not_not] at hc45
      refine wp_seq ?_
      refine wp_region_lit ?_
      refine s_val rfl rfl (v_assign rfl rfl) ?_
      refine s_val rfl rfl (v_assign rfl rfl) ?_
      refine wpList_nil ?_
      refine wp_ret ?_
      refine ret_tmp2 Tryz.results152 rfl rfl ?_
      exact ⟨cx.ext, 0, tup_sz (m := 0) (szR_short ha (by rw [hhd]; simp only; omega)) rfl rfl⟩
    · skip
      try simp only [Bool.and_eq_true, Bool.or_eq_true, Bool.and_eq_false_iff, Bool.or_eq_false_iff, Bool.not_eq_true', Bool.not_eq_false', decide_eq_true_eq, decide_eq_false_iff_not, beq_iff_eq, beq_eq_false_iff_ne, bne_iff_ne, bne_eq_false_iff_eq, ne_eq, Classical.not_not] at hc45
      refine wp_skip ?_
      refine wp_seq ?_
      refine wp_seq ?_
      refine wp_region_lit ?_
      refine s_val rfl rfl (v_assign rfl rfl) ?_
      refine wpList_nil ?_
      refine wp_block ?_
      refine w_loop (fun k f w1 => ∃ i : Nat, 1 ≤ i ∧ k + i = n0 ∧ f 0 = .string s ∧ f 1 = .int .i64 a ∧ f 7 = .int .i64 n0 ∧ f 8 = .int .i64 (accN s a r0 (i - 1)) ∧ f 9 = .int .i64 i ∧ Ctx w0 w1 []) (n0 - 1) ?_ ?_
      · skip
        exact ⟨1, by omega, by omega, hs0, hs1, hs7, hs8, rfl, cx⟩
      intro gk14 f w hJ
      obtain ⟨i, hi, hk, hs0, hs1, hs7, hs8, hs9, cx⟩ := hJ
      have hacc := accN_lt s a r0 (by omega) (i - 1) (by omega)
      have hacc2 : 256 * 64 ^ (i - 1) ≤ 67108864 := Nat.le_trans (Nat.mul_le_mul_left 256 (Nat.pow_le_pow_right (by decide) (show i - 1 ≤ 3 by omega))) (by decide)
      refine wp_seq ?_
      refine wp_seq ?_
      refine wp_region_lit ?_
      refine s_val rfl rfl (v_move rfl hs9) ?_
      refine s_val rfl rfl (v_move rfl hs7) ?_
      refine s_val rfl rfl (v_cmp rfl rfl rfl rfl) ?_
      refine wpList_nil ?_
      refine c_split rfl (fun hc48 => ?_) (fun hc48 => ?_)
      · skip
        try simp only [Bool.and_eq_true, Bool.or_eq_true, Bool.and_eq_false_iff, Bool.or_eq_false_iff, Bool.not_eq_true', Bool.not_eq_false', decide_eq_true_eq, decide_eq_false_iff_not, beq_iff_eq, beq_eq_false_iff_ne, bne_iff_ne, bne_eq_false_iff_eq, ne_eq, Classical.not_not] at hc48
        refine wp_skip ?_
        refine wp_seq ?_
        refine wp_block ?_
        refine wp_region_lit ?_
        refine s_val rfl rfl (v_move rfl hs8) ?_
        refine s_val rfl rfl (v_shl rfl rfl rfl (by decide)) ?_
        refine s_val rfl rfl (v_move rfl hs0) ?_
        refine s_val rfl rfl (v_move rfl hs1) ?_
        refine s_val rfl rfl (v_move rfl hs9) ?_
        refine s_val rfl rfl (v_add rfl rfl rfl (by omega) (by omega)) ?_
        refine s_val rfl rfl (v_idxStr rfl rfl rfl Tryz.underlying9 (by omega) (by omega)) ?_
        refine s_val rfl rfl (v_ofByte rfl rfl Tryz.underlying5 Tryz.underlying3 (by first | exact byteAt_lo _ _ | omega) (by first | exact byteAt_hi _ _ | omega)) ?_
        refine s_val rfl rfl (v_band rfl rfl rfl) ?_
        refine s_val rfl rfl (v_bor rfl rfl rfl) ?_
        refine s_val rfl rfl (v_assign rfl rfl) ?_
        refine wpList_nil ?_
        refine wp_region_lit ?_
        refine s_val rfl rfl (v_move rfl hs9) ?_
        refine s_val rfl rfl (v_add rfl rfl rfl (by omega) (by omega)) ?_
        refine s_val rfl rfl (v_assign rfl rfl) ?_
        refine wpList_nil ?_
        refine ⟨gk14 - 1, _, by omega, rfl, i + 1, by omega, by omega, hs0, hs1, hs7, congrArg (Value.int .i64) ?_, rfl, cx⟩
        rw [show ((a : Int) + (i : Int)) = ((a + i : Nat) : Int) by omega, byteAt_bA, and63 (bA_lt _ _)]
        refine (congrArg (fun z => bitOp .or .i64 z _) (shl6 (by omega))).trans ?_
        rw [or_add (by omega) (by omega)]
        obtain ⟨i, rfl⟩ : ∃ j, i = j + 1 := ⟨i - 1, by omega⟩
        rfl
      · skip
        try simp only [Bool.and_eq_true, Bool.or_eq_true, Bool.and_eq_false_iff, Bool.or_eq_false_iff, Bool.not_eq_true', Bool.not_eq_false', decide_eq_true_eq, decide_eq_false_iff_not, beq_iff_eq, beq_eq_false_iff_ne, bne_iff_ne, bne_eq_false_iff_eq, ne_eq, Classical.not_not] at hc48
        refine wp_exit ?_
        refine wp_seq ?_
        refine wp_region_lit ?_
        refine s_val rfl rfl (v_move rfl hs8) ?_
        refine s_fn cx (c212 _ _ (by omega)) Tryz.func212 rfl rfl rfl rfl rfl rfl ?_; intro q63 w cx hw63 hp63
        subst hp63
        refine s_val rfl rfl (v_move rfl rfl) ?_
        refine s_val rfl rfl (v_extract rfl rfl rfl) ?_
        refine s_val rfl rfl (v_extract rfl rfl rfl) ?_
        refine s_val rfl rfl (v_assign rfl rfl) ?_
        refine s_val rfl rfl (v_assign rfl rfl) ?_
        refine wpList_nil ?_
        refine wp_seq ?_
        refine wp_seq ?_
        refine wp_region_lit ?_
        refine s_val rfl rfl (v_move rfl rfl) ?_
        refine s_val rfl rfl (v_cmp rfl rfl rfl rfl) ?_
        refine s_val rfl rfl (v_move rfl rfl) ?_
        refine s_gval rfl rfl rfl (by first | exact w_ff rfl | exact w_gf rfl) (fun hc => v_move rfl (by first | exact gve hc rfl | exact gve (and_l hc) rfl | exact gve (and_l (and_l hc)) rfl | rfl)) ?_
        refine s_gval rfl rfl rfl (by first | exact w_ff rfl | exact w_gf rfl) (fun hc => v_move rfl hs0) ?_
        refine s_gval rfl rfl rfl (by first | exact w_ff rfl | exact w_gf rfl) (fun hc => v_move rfl hs1) ?_
        refine s_gval rfl rfl rfl (by first | exact w_ff rfl | exact w_gf rfl) (fun hc => v_move rfl hs1) ?_
        refine s_gval rfl rfl rfl (by first | exact w_ff rfl | exact w_gf rfl) (fun hc => v_move rfl hs7) ?_
        refine s_gval rfl rfl rfl (by first | exact w_ff rfl | exact w_gf rfl) (fun hc => v_add rfl (by first | exact gve hc rfl | exact gve (and_l hc) rfl | exact gve (and_l (and_l hc)) rfl | rfl) (by first | exact gve hc rfl | exact gve (and_l hc) rfl | exact gve (and_l (and_l hc)) rfl | rfl) (by first | omega | (simp only [Bool.and_eq_true, Bool.or_eq_true, Bool.and_eq_false_iff, Bool.or_eq_false_iff, Bool.not_eq_true', Bool.not_eq_false', decide_eq_true_eq, decide_eq_false_iff_not, beq_iff_eq, beq_eq_false_iff_ne, bne_iff_ne, bne_eq_false_iff_eq, ne_eq, Classical.not_not] at hc; omega)) (by first | omega | (simp only [Bool.and_eq_true, Bool.or_eq_true, Bool.and_eq_false_iff, Bool.or_eq_false_iff, Bool.not_eq_true', Bool.not_eq_false', decide_eq_true_eq, decide_eq_false_iff_not, beq_iff_eq, beq_eq_false_iff_ne, bne_iff_ne, bne_eq_false_iff_eq, ne_eq, Classical.not_not] at hc; omega))) ?_
        refine s_gval rfl rfl rfl (by first | exact w_ff rfl | exact w_gf rfl) (fun hc => v_subStr rfl (by first | exact gve hc rfl | exact gve (and_l hc) rfl | exact gve (and_l (and_l hc)) rfl | rfl) (by first | exact gve hc rfl | exact gve (and_l hc) rfl | exact gve (and_l (and_l hc)) rfl | rfl) (by first | exact gve hc rfl | exact gve (and_l hc) rfl | exact gve (and_l (and_l hc)) rfl | rfl) Tryz.underlying9 (by first | omega | (simp only [Bool.and_eq_true, Bool.or_eq_true, Bool.and_eq_false_iff, Bool.or_eq_false_iff, Bool.not_eq_true', Bool.not_eq_false', decide_eq_true_eq, decide_eq_false_iff_not, beq_iff_eq, beq_eq_false_iff_ne, bne_iff_ne, bne_eq_false_iff_eq, ne_eq, Classical.not_not] at hc; omega)) (by first | omega | (simp only [Bool.and_eq_true, Bool.or_eq_true, Bool.and_eq_false_iff, Bool.or_eq_false_iff, Bool.not_eq_true', Bool.not_eq_false', decide_eq_true_eq, decide_eq_false_iff_not, beq_iff_eq, beq_eq_false_iff_ne, bne_iff_ne, bne_eq_false_iff_eq, ne_eq, Classical.not_not] at hc; omega)) (by first | omega | (simp only [Bool.and_eq_true, Bool.or_eq_true, Bool.and_eq_false_iff, Bool.or_eq_false_iff, Bool.not_eq_true', Bool.not_eq_false', decide_eq_true_eq, decide_eq_false_iff_not, beq_iff_eq, beq_eq_false_iff_ne, bne_iff_ne, bne_eq_false_iff_eq, ne_eq, Classical.not_not] at hc; omega))) ?_
        refine s_gval rfl rfl rfl (by first | exact w_ff rfl | exact w_gf rfl) (fun hc => v_strNe rfl (by first | exact gve hc rfl | exact gve (and_l hc) rfl | exact gve (and_l (and_l hc)) rfl | rfl) (by first | exact gve hc rfl | exact gve (and_l hc) rfl | exact gve (and_l (and_l hc)) rfl | rfl)) ?_
        refine s_val rfl rfl (v_or rfl rfl rfl rfl) ?_
        refine wpList_nil ?_
        refine c_split rfl (fun hc77 => ?_) (fun hc77 => ?_)
        · skip
          try simp only [Bool.and_eq_true, Bool.or_eq_true, Bool.and_eq_false_iff, Bool.or_eq_false_iff, Bool.not_eq_true', Bool.not_eq_false', decide_eq_true_eq, decide_eq_false_iff_not, beq_iff_eq, beq_eq_false_iff_ne, bne_iff_ne, bne_eq_false_iff_eq, ne_eq, Classical.not_not] at hc77
          refine wp_seq ?_
          refine wp_region_lit ?_
          refine s_val rfl rfl (v_assign rfl rfl) ?_
          refine s_val rfl rfl (v_assign rfl rfl) ?_
          refine wpList_nil ?_
          refine wp_ret ?_
          refine ret_tmp2 Tryz.results152 rfl rfl ?_
          have hi' : i = n0 := by omega
          subst hi'
          have hz : szAt s a = 0 := by
            rw [szR_end ha (by rw [hhd]; simp only; omega), hhd]
            simp only
            rw [if_neg]
            rintro ⟨e1, e2⟩
            rcases hc77 with h | h
            · exact h (by rw [e1]; rfl)
            · refine h ?_
              rw [e2]
              exact congr_cut (by omega) (by omega)
          exact ⟨cx.ext, 0, tup_sz (m := 0) hz rfl rfl⟩
        · skip
          try simp only [Bool.and_eq_true, Bool.or_eq_true, Bool.and_eq_false_iff, Bool.or_eq_false_iff, Bool.not_eq_true', Bool.not_eq_false', decide_eq_true_eq, decide_eq_false_iff_not, beq_iff_eq, beq_eq_false_iff_ne, bne_iff_ne, bne_eq_false_iff_eq, ne_eq, Classical.not_not] at hc77
          refine wp_skip ?_
          refine wp_seq ?_
          refine wp_region_lit ?_
          refine s_val rfl rfl (v_move rfl hs8) ?_
          refine s_val rfl rfl (v_move rfl hs7) ?_
          refine s_val rfl rfl (v_assign rfl rfl) ?_
          refine s_val rfl rfl (v_assign rfl rfl) ?_
          refine wpList_nil ?_
          refine wp_ret ?_
          refine ret_tmp2 Tryz.results152 rfl rfl ?_
          have hi' : i = n0 := by omega
          subst hi'
          have hz : szAt s a = i := by
            rw [szR_end ha (by rw [hhd]; simp only; omega), hhd]
            simp only
            rw [if_pos]
            obtain ⟨h1, h2⟩ := hc77
            have e : chN (accN s a r0 (i - 1)) = true := by
              by_cases e : chN (accN s a r0 (i - 1)) = true
              · exact e
              · rw [if_neg e] at h1; exact absurd h1 (by decide)
            refine ⟨e, ?_⟩
            have h3 := congrArg (fun b : ByteArray => b.data.toList) h2
            exact h3.trans (cut_list' (by omega) (by omega))
          exact ⟨cx.ext, _, tup_sz (m := i) hz rfl rfl⟩

set_option maxRecDepth 10000 in
theorem c95 (s : ByteArray) (w0 : World) (hs : s.size ≤ 1073741824) : Fc Tryz.prog 95 [.string s] w0 (fun v _ => ∃ x, v = .tuple #[x, .bool (validD s.data.toList)]) := by
  refine ret_enter Tryz.func95 rfl Tryz.ntmps95 rfl ?_
  have cx := Ctx.start w0
  refine wp_seq ?_
  refine wp_region_lit ?_
  refine s_val rfl rfl (v_assign rfl rfl) ?_
  refine s_val rfl rfl (v_assign rfl rfl) ?_
  refine wpList_nil ?_
  refine wp_seq ?_
  refine wp_region_lit ?_
  refine s_bsl1 cx Tryz.underlying167 sz3 z3 rfl rfl rfl rfl rfl rfl rfl rfl ?_; intro b8 w cx hb8 hw8
  replace cx := Cxr.toRow (size := 1) (k := 1) cx rfl (by decide)
  refine s_val rfl rfl (v_assign rfl rfl) ?_
  refine wpList_nil ?_
  refine wp_seq ?_
  refine wp_region_lit ?_
  refine s_val rfl rfl (v_assign rfl rfl) ?_
  refine wpList_nil ?_
  refine wp_seq ?_
  refine wp_block ?_
  refine w_loop (fun k f w1 => ∃ (i m : Nat) (v : Value) (xs : List Value), k + i = s.size ∧ m ≤ i + 1 ∧ validD s.data.toList = validD (s.data.toList.drop i) ∧ f 0 = .string s ∧ f 5 = .int .i64 i ∧ f 4 = v ∧ Cxr w0 w1 [] [⟨3, 1, v, m, xs⟩]) (s.size) ?_ ?_
  · skip
    exact ⟨0, 1, _, _, by omega, by omega, rfl, rfl, rfl, rfl, cx⟩
  intro gk3 f w hJ
  obtain ⟨i, m, v, xs, hk, hm, hv0, hs0, hs5, hs4, cx⟩ := hJ
  refine wp_seq ?_
  refine wp_seq ?_
  refine wp_region_lit ?_
  refine s_val rfl rfl (v_move rfl hs5) ?_
  refine s_val rfl rfl (v_move rfl hs0) ?_
  refine s_val rfl rfl (v_lenString rfl rfl Tryz.underlying9) ?_
  refine s_val rfl rfl (v_cmp rfl rfl rfl rfl) ?_
  refine wpList_nil ?_
  refine c_split rfl (fun hc12 => ?_) (fun hc12 => ?_)
  · skip
    try simp only [Bool.and_eq_true, Bool.or_eq_true, Bool.and_eq_false_iff, Bool.or_eq_false_iff, Bool.not_eq_true', Bool.not_eq_false', decide_eq_true_eq, decide_eq_false_iff_not, beq_iff_eq, beq_eq_false_iff_ne, bne_iff_ne, bne_eq_false_iff_eq, ne_eq, Classical.not_not] at hc12
    have hsz := szAt_le s i (by omega)
    refine wp_skip ?_
    refine wp_block ?_
    refine wp_seq ?_
    refine wp_region_lit ?_
    refine s_val rfl rfl (v_move rfl hs0) ?_
    refine s_val rfl rfl (v_move rfl hs5) ?_
    refine s_fn cx (c152 _ _ _ (by omega) (by omega)) Tryz.func152 rfl rfl rfl rfl rfl rfl ?_; intro q16 w cx hw16 hp16
    obtain ⟨er16, rfl⟩ := hp16
    refine s_val rfl rfl (v_move rfl rfl) ?_
    refine s_val rfl rfl (v_extract rfl rfl rfl) ?_
    refine s_val rfl rfl (v_extract rfl rfl rfl) ?_
    refine s_val rfl rfl (v_assign rfl rfl) ?_
    refine s_val rfl rfl (v_assign rfl rfl) ?_
    refine wpList_nil ?_
    refine wp_seq ?_
    refine wp_seq ?_
    refine wp_region_lit ?_
    refine s_val rfl rfl (v_move rfl rfl) ?_
    refine s_val rfl rfl (v_cmp rfl rfl rfl rfl) ?_
    refine wpList_nil ?_
    refine c_split rfl (fun hc20 => ?_) (fun hc20 => ?_)
    · skip
      try simp only [Bool.and_eq_true, Bool.or_eq_true, Bool.and_eq_false_iff, Bool.or_eq_false_iff, Bool.not_eq_true', Bool.not_eq_false', decide_eq_true_eq, decide_eq_false_iff_not, beq_iff_eq, beq_eq_false_iff_ne, bne_iff_ne, bne_eq_false_iff_eq, ne_eq, Classical.not_not] at hc20
      refine wp_seq ?_
      refine wp_region_lit ?_
      refine s_val rfl rfl (v_move rfl hs4) ?_
      refine s_val rfl rfl (v_assign rfl rfl) ?_
      refine s_val rfl rfl (v_assign rfl rfl) ?_
      refine wpList_nil ?_
      refine wp_ret ?_
      refine ret_tmp2 Tryz.results95 rfl rfl ?_
      exact ⟨cx.ext, _, tup_b (hv0.trans (valid_0 s i (by omega) (by omega))).symm rfl⟩
    · skip
      try simp only [Bool.and_eq_true, Bool.or_eq_true, Bool.and_eq_false_iff, Bool.or_eq_false_iff, Bool.not_eq_true', Bool.not_eq_false', decide_eq_true_eq, decide_eq_false_iff_not, beq_iff_eq, beq_eq_false_iff_ne, bne_iff_ne, bne_eq_false_iff_eq, ne_eq, Classical.not_not] at hc20
      refine wp_skip ?_
      refine wp_seq ?_
      refine wp_region_lit ?_
      refine s_val rfl rfl (v_move rfl hs5) ?_
      refine s_val rfl rfl (v_move rfl rfl) ?_
      refine s_val rfl rfl (v_add rfl rfl rfl (by omega) (by omega)) ?_
      refine s_val rfl rfl (v_assign rfl rfl) ?_
      refine wpList_nil ?_
      refine wp_region_lit ?_
      refine s_val rfl rfl (v_move rfl hs4) ?_
      refine s_val rfl rfl (v_move rfl rfl) ?_
      refine s_bsl1 cx Tryz.underlying167 sz3 z3 rfl rfl rfl rfl rfl rfl rfl rfl ?_; intro b27 w cx hb27 hw27
      refine s_append cx ei3 Tryz.underlying167 rfl rfl rfl rfl rfl (cx.row 0 rfl) rfl rfl (by omega) ?_; intro v28 w cx hgr28
      replace cx := cx.drop 1
      refine s_val rfl rfl (v_assign rfl rfl) ?_
      refine wpList_nil ?_
      have hsz := szAt_le s i (by omega)
      refine ⟨gk3 - szAt s i, _, by omega, rfl, i + szAt s i, m + 1, _, _, by omega, by omega, ?_, hs0, ?_, rfl, cx⟩
      · rw [hv0]; exact valid_n s i (by omega) (by omega)
      · show Value.int .i64 _ = _
        congr 1
  · skip
    try simp only [Bool.and_eq_true, Bool.or_eq_true, Bool.and_eq_false_iff, Bool.or_eq_false_iff, Bool.not_eq_true', Bool.not_eq_false', decide_eq_true_eq, decide_eq_false_iff_not, beq_iff_eq, beq_eq_false_iff_ne, bne_iff_ne, bne_eq_false_iff_eq, ne_eq, Classical.not_not] at hc12
    refine wp_exit ?_
    refine wp_seq ?_
    refine wp_region_lit ?_
    refine s_val rfl rfl (v_move rfl hs4) ?_
    refine s_val rfl rfl (v_assign rfl rfl) ?_
    refine s_val rfl rfl (v_assign rfl rfl) ?_
    refine wpList_nil ?_
    refine wp_ret ?_
    refine ret_tmp2 Tryz.results95 rfl rfl ?_
    exact ⟨cx.ext, _, tup_b (hv0.trans (valid_end s i (by omega))).symm rfl⟩

set_option maxRecDepth 10000 in
theorem c44 (s : ByteArray) (w0 : World) (hs : s.size ≤ 1073741824) : Fc Tryz.prog 44 [.string s] w0 (IsB fun b => b = validD s.data.toList) := by
  refine ret_enter Tryz.func44 rfl Tryz.ntmps44 rfl ?_
  have cx := Ctx.start w0
  refine wp_seq ?_
  refine wp_region_lit ?_
  refine s_val rfl rfl (v_assign rfl rfl) ?_
  refine wpList_nil ?_
  refine wp_seq ?_
  refine wp_region_lit ?_
  refine s_val rfl rfl (v_move rfl rfl) ?_
  refine s_fn cx (c95 _ _ (by omega)) Tryz.func95 rfl rfl rfl rfl rfl rfl ?_; intro q7 w cx hw7 hp7
  obtain ⟨ex7, rfl⟩ := hp7
  refine s_val rfl rfl (v_move rfl rfl) ?_
  refine s_val rfl rfl (v_extract rfl rfl rfl) ?_
  refine s_val rfl rfl (v_extract rfl rfl rfl) ?_
  refine s_val rfl rfl (v_assign rfl rfl) ?_
  refine s_val rfl rfl (v_assign rfl rfl) ?_
  refine wpList_nil ?_
  refine wp_seq ?_
  refine wp_region_lit ?_
  refine s_val rfl rfl (v_move rfl rfl) ?_
  refine s_val rfl rfl (v_assign rfl rfl) ?_
  refine wpList_nil ?_
  refine wp_ret ?_
  refine ret_tmp Tryz.results44 rfl ?_
  exact ⟨cx.ext, _, rfl, rfl⟩

end Go.Proofs.YthiafbkolhnadaaGreatDoor
