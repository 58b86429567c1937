/-
  Several texts in one: Rw, Pw, Gu, Pz, Rx, Bt, Ge, Gh, Gg
-/
import Derived.Test.YthiafbkolhnadaaGreatDoorTD
import Derived.Lib.Atoi
import Derived.Lib.SmallJoins
import Derived.Lib.SplitLaws
section
set_option linter.unusedSimpArgs false
set_option linter.unusedVariables false
namespace Go.Proofs.YthiafbkolhnadaaGreatDoor
open Go Go.Dk Go.RowKit Go.Lib
attribute [local irreducible] Go.wpList Go.Code.wp Go.bodyPost Go.wpStill Go.wpQuiet
theorem sz261 : (Tryz.prog.info? 261).map (·.size) = some 3 := by kernel_rfl
theorem fa261_0 : FA Tryz.prog 261 0 0 := fa_of (tt := 9) Tryz.underlying261 rfl sz9 rfl
theorem fa261_1 : FA Tryz.prog 261 1 1 := fa_of (tt := 3) Tryz.underlying261 rfl sz3 rfl
theorem fa261_2 : FA Tryz.prog 261 2 2 := fa_of (tt := 4) Tryz.underlying261 rfl sz4 rfl
set_option maxHeartbeats 4000000 in
set_option maxRecDepth 10000 in
theorem c248 (s : List UInt8) (p b : Nat) (w0 : World) (hr : RowAt w0 b 0 [.string (bs s), .int .i64 p, .bool false]) (hp : p < s.length) : Fc Tryz.prog 248 [.pointer (some ⟨b, 0, none⟩)] w0 (fun v _ => v = .int .u8 ((s.getD p 0).toNat : Nat)) := by
  refine ret_enter Tryz.func248 rfl Tryz.ntmps248 rfl ?_
  have cx := Ctx.start w0
  refine wp_seq ?_
  refine wp_region_lit ?_
  refine s_val rfl rfl (v_assign rfl rfl) ?_
  refine wpList_nil ?_
  refine wp_seq ?_
  refine wp_seq ?_
  refine w_quiet cx mixed (by kernel_rfl) ?_
  refine q_val rfl rfl (fun w cx hwQ => v_move rfl rfl) ?_
  refine q_val rfl rfl (fun w cx hwQ => v_nilCk rfl rfl) ?_
  refine q_val rfl rfl (fun w cx hwQ => v_fa fa261_2 rfl rfl) ?_
  refine q_val rfl rfl (fun w cx hwQ => v_load1 rfl rfl Tryz.underlying4 rfl ((hr.up cx.ext).cell 2 rfl)) ?_
  refine q_val rfl rfl (fun w cx hwQ => v_move rfl rfl) ?_
  refine q_gval rfl rfl rfl (by first | exact w_ff rfl | exact w_gf rfl) (fun hc w cx hwQ => v_move rfl (by first | exact gve hc rfl | exact gve (and_l hc) rfl | exact gve (and_l (and_l hc)) rfl | rfl)) ?_
  refine q_gval rfl rfl rfl (by first | exact w_ff rfl | exact w_gf rfl) (fun hc w cx hwQ => v_nilCk rfl (by first | exact gve hc rfl | exact gve (and_l hc) rfl | exact gve (and_l (and_l hc)) rfl | rfl)) ?_
  refine q_gval rfl rfl rfl (by first | exact w_ff rfl | exact w_gf rfl) (fun hc w cx hwQ => v_fa fa261_1 rfl (by first | exact gve hc rfl | exact gve (and_l hc) rfl | exact gve (and_l (and_l hc)) rfl | rfl)) ?_
  refine q_gval rfl rfl rfl (by first | exact w_ff rfl | exact w_gf rfl) (fun hc w cx hwQ => v_load1 rfl (by first | exact gve hc rfl | exact gve (and_l hc) rfl | exact gve (and_l (and_l hc)) rfl | rfl) Tryz.underlying3 rfl ((hr.up cx.ext).cell 1 rfl)) ?_
  refine q_gval rfl rfl rfl (by first | exact w_ff rfl | exact w_gf rfl) (fun hc w cx hwQ => v_move rfl (by first | exact gve hc rfl | exact gve (and_l hc) rfl | exact gve (and_l (and_l hc)) rfl | rfl)) ?_
  refine q_gval rfl rfl rfl (by first | exact w_ff rfl | exact w_gf rfl) (fun hc w cx hwQ => v_nilCk rfl (by first | exact gve hc rfl | exact gve (and_l hc) rfl | exact gve (and_l (and_l hc)) rfl | rfl)) ?_
  refine q_gval rfl rfl rfl (by first | exact w_ff rfl | exact w_gf rfl) (fun hc w cx hwQ => v_fa fa261_0 rfl (by first | exact gve hc rfl | exact gve (and_l hc) rfl | exact gve (and_l (and_l hc)) rfl | rfl)) ?_
  refine q_gval rfl rfl rfl (by first | exact w_ff rfl | exact w_gf rfl) (fun hc w cx hwQ => v_load1 rfl (by first | exact gve hc rfl | exact gve (and_l hc) rfl | exact gve (and_l (and_l hc)) rfl | rfl) Tryz.underlying9 rfl ((hr.up cx.ext).cell 0 rfl)) ?_
  refine q_gval rfl rfl rfl (by first | exact w_ff rfl | exact w_gf rfl) (fun hc w cx hwQ => v_lenB rfl (by first | exact gve hc rfl | exact gve (and_l hc) rfl | exact gve (and_l (and_l hc)) rfl | rfl) Tryz.underlying9) ?_
  refine q_gval rfl rfl rfl (by first | exact w_ff rfl | exact w_gf rfl) (fun hc w cx hwQ => v_cmp rfl (by first | exact gve hc rfl | exact gve (and_l hc) rfl | exact gve (and_l (and_l hc)) rfl | rfl) (by first | exact gve hc rfl | exact gve (and_l hc) rfl | exact gve (and_l (and_l hc)) rfl | rfl) rfl) ?_
  refine q_val rfl rfl (fun w cx hwQ => v_or rfl rfl rfl rfl) ?_
  refine q_nil ?_; rintro w ⟨cx, hwQ1⟩
  refine c_split rfl (fun hc18 => ?_) (fun hc18 => ?_)
  · skip
    try simp only [Bool.and_eq_true, Bool.or_eq_true, Bool.and_eq_false_iff, Bool.or_eq_false_iff, Bool.not_eq_true', Bool.not_eq_false', decide_eq_true_eq, decide_eq_false_iff_not, beq_iff_eq, beq_eq_false_iff_ne, bne_iff_ne, bne_eq_false_iff_eq, ne_eq, Classical.not_not] at hc18
    exfalso
    rcases hc18 with h | h
    · cases h
    · omega
  · skip
    try simp only [Bool.and_eq_true, Bool.or_eq_true, Bool.and_eq_false_iff, Bool.or_eq_false_iff, Bool.not_eq_true', Bool.not_eq_false', decide_eq_true_eq, decide_eq_false_iff_not, beq_iff_eq, beq_eq_false_iff_ne, bne_iff_ne, bne_eq_false_iff_eq, ne_eq, Classical.not_not] at hc18
    refine wp_skip ?_
    refine wp_seq ?_
    refine w_quiet cx mixed (by kernel_rfl) ?_
    refine q_val rfl rfl (fun w cx hwQ => v_move rfl rfl) ?_
    refine q_val rfl rfl (fun w cx hwQ => v_nilCk rfl rfl) ?_
    refine q_val rfl rfl (fun w cx hwQ => v_fa fa261_0 rfl rfl) ?_
    refine q_val rfl rfl (fun w cx hwQ => v_load1 rfl rfl Tryz.underlying9 rfl ((hr.up cx.ext).cell 0 rfl)) ?_
    refine q_val rfl rfl (fun w cx hwQ => v_move rfl rfl) ?_
    refine q_val rfl rfl (fun w cx hwQ => v_nilCk rfl rfl) ?_
    refine q_val rfl rfl (fun w cx hwQ => v_fa fa261_1 rfl rfl) ?_
    refine q_val rfl rfl (fun w cx hwQ => v_load1 rfl rfl Tryz.underlying3 rfl ((hr.up cx.ext).cell 1 rfl)) ?_
    refine q_val rfl rfl (fun w cx hwQ => v_idxB rfl rfl rfl Tryz.underlying9 (by omega) (by omega)) ?_
    refine q_val rfl rfl (fun w cx hwQ => v_assign rfl rfl) ?_
    refine q_nil ?_; rintro w ⟨cx, hwQ3⟩
    refine wp_ret ?_
    refine ret_tmp Tryz.results248 rfl ?_
    exact ⟨cx.ext, rfl⟩
set_option maxHeartbeats 4000000 in
set_option maxRecDepth 10000 in
theorem c320 (wb w0 : World) (b p : Nat) (s a : List UInt8) (L : List (Nat × Obj)) (R : List Row) (cx0 : Cxr wb w0 ((b, .cells ([.string (bs s), .int .i64 p, .bool false] : List Value).toArray 261) :: L) R) (hp : p + a.length ≤ s.length) (hs : s.length ≤ 1073741824) (ha : (s.take (p + a.length)).drop p = a) : Ret Tryz.prog 320 [.pointer (some ⟨b, 0, none⟩), .string (bs a)] w0 (fun v w' => v = .tuple #[] ∧ Cxr wb w' ((b, .cells ([.string (bs s), .int .i64 (p + a.length : Nat), .bool false] : List Value).toArray 261) :: L) R) := by
  refine ret_enter Tryz.func320 rfl Tryz.ntmps320 rfl ?_
  have cx := cx0
  refine wp_seq ?_
  refine wp_seq ?_
  refine w_quiet cx mixed (by kernel_rfl) ?_
  refine q_val rfl rfl (fun w cx hwQ => v_move rfl rfl) ?_
  refine q_val rfl rfl (fun w cx hwQ => v_nilCk rfl rfl) ?_
  refine q_val rfl rfl (fun w cx hwQ => v_fa fa261_2 rfl rfl) ?_
  refine q_val rfl rfl (fun w cx hwQ => v_load1 rfl rfl Tryz.underlying4 rfl ((cx.row 0 rfl).cell 2 rfl)) ?_
  refine q_val rfl rfl (fun w cx hwQ => v_move rfl rfl) ?_
  refine q_gval rfl rfl rfl (by first | exact w_ff rfl | exact w_gf rfl) (fun hc w cx hwQ => v_move rfl (by first | exact gve hc rfl | exact gve (and_l hc) rfl | exact gve (and_l (and_l hc)) rfl | rfl)) ?_
  refine q_gval rfl rfl rfl (by first | exact w_ff rfl | exact w_gf rfl) (fun hc w cx hwQ => v_nilCk rfl (by first | exact gve hc rfl | exact gve (and_l hc) rfl | exact gve (and_l (and_l hc)) rfl | rfl)) ?_
  refine q_gval rfl rfl rfl (by first | exact w_ff rfl | exact w_gf rfl) (fun hc w cx hwQ => v_fa fa261_0 rfl (by first | exact gve hc rfl | exact gve (and_l hc) rfl | exact gve (and_l (and_l hc)) rfl | rfl)) ?_
  refine q_gval rfl rfl rfl (by first | exact w_ff rfl | exact w_gf rfl) (fun hc w cx hwQ => v_load1 rfl (by first | exact gve hc rfl | exact gve (and_l hc) rfl | exact gve (and_l (and_l hc)) rfl | rfl) Tryz.underlying9 rfl ((cx.row 0 rfl).cell 0 rfl)) ?_
  refine q_gval rfl rfl rfl (by first | exact w_ff rfl | exact w_gf rfl) (fun hc w cx hwQ => v_lenB rfl (by first | exact gve hc rfl | exact gve (and_l hc) rfl | exact gve (and_l (and_l hc)) rfl | rfl) Tryz.underlying9) ?_
  refine q_gval rfl rfl rfl (by first | exact w_ff rfl | exact w_gf rfl) (fun hc w cx hwQ => v_move rfl (by first | exact gve hc rfl | exact gve (and_l hc) rfl | exact gve (and_l (and_l hc)) rfl | rfl)) ?_
  refine q_gval rfl rfl rfl (by first | exact w_ff rfl | exact w_gf rfl) (fun hc w cx hwQ => v_nilCk rfl (by first | exact gve hc rfl | exact gve (and_l hc) rfl | exact gve (and_l (and_l hc)) rfl | rfl)) ?_
  refine q_gval rfl rfl rfl (by first | exact w_ff rfl | exact w_gf rfl) (fun hc w cx hwQ => v_fa fa261_1 rfl (by first | exact gve hc rfl | exact gve (and_l hc) rfl | exact gve (and_l (and_l hc)) rfl | rfl)) ?_
  refine q_gval rfl rfl rfl (by first | exact w_ff rfl | exact w_gf rfl) (fun hc w cx hwQ => v_load1 rfl (by first | exact gve hc rfl | exact gve (and_l hc) rfl | exact gve (and_l (and_l hc)) rfl | rfl) Tryz.underlying3 rfl ((cx.row 0 rfl).cell 1 rfl)) ?_
  refine q_gval rfl rfl rfl (by first | exact w_ff rfl | exact w_gf rfl) (fun hc w cx hwQ => v_sub rfl (by first | exact gve hc rfl | exact gve (and_l hc) rfl | exact gve (and_l (and_l hc)) rfl | rfl) (by first | exact gve hc rfl | exact gve (and_l hc) rfl | exact gve (and_l (and_l hc)) rfl | rfl) (by first | omega | (simp only [Bool.and_eq_true, Bool.or_eq_true, Bool.and_eq_false_iff, Bool.or_eq_false_iff, Bool.not_eq_true', Bool.not_eq_false', decide_eq_true_eq, decide_eq_false_iff_not, beq_iff_eq, beq_eq_false_iff_ne, bne_iff_ne, bne_eq_false_iff_eq, ne_eq, Classical.not_not] at hc; omega)) (by first | omega | (simp only [Bool.and_eq_true, Bool.or_eq_true, Bool.and_eq_false_iff, Bool.or_eq_false_iff, Bool.not_eq_true', Bool.not_eq_false', decide_eq_true_eq, decide_eq_false_iff_not, beq_iff_eq, beq_eq_false_iff_ne, bne_iff_ne, bne_eq_false_iff_eq, ne_eq, Classical.not_not] at hc; omega))) ?_
  refine q_gval rfl rfl rfl (by first | exact w_ff rfl | exact w_gf rfl) (fun hc w cx hwQ => v_move rfl (by first | exact gve hc rfl | exact gve (and_l hc) rfl | exact gve (and_l (and_l hc)) rfl | rfl)) ?_
  refine q_gval rfl rfl rfl (by first | exact w_ff rfl | exact w_gf rfl) (fun hc w cx hwQ => v_lenB rfl (by first | exact gve hc rfl | exact gve (and_l hc) rfl | exact gve (and_l (and_l hc)) rfl | rfl) Tryz.underlying9) ?_
  refine q_gval rfl rfl rfl (by first | exact w_ff rfl | exact w_gf rfl) (fun hc w cx hwQ => v_cmp rfl (by first | exact gve hc rfl | exact gve (and_l hc) rfl | exact gve (and_l (and_l hc)) rfl | rfl) (by first | exact gve hc rfl | exact gve (and_l hc) rfl | exact gve (and_l (and_l hc)) rfl | rfl) rfl) ?_
  refine q_val rfl rfl (fun w cx hwQ => v_or rfl rfl rfl rfl) ?_
  refine q_val rfl rfl (fun w cx hwQ => v_move rfl rfl) ?_
  refine q_gval rfl rfl rfl (by first | exact w_ff rfl | exact w_gf rfl) (fun hc w cx hwQ => v_move rfl (by first | exact gve hc rfl | exact gve (and_l hc) rfl | exact gve (and_l (and_l hc)) rfl | rfl)) ?_
  refine q_gval rfl rfl rfl (by first | exact w_ff rfl | exact w_gf rfl) (fun hc w cx hwQ => v_nilCk rfl (by first | exact gve hc rfl | exact gve (and_l hc) rfl | exact gve (and_l (and_l hc)) rfl | rfl)) ?_
  refine q_gval rfl rfl rfl (by first | exact w_ff rfl | exact w_gf rfl) (fun hc w cx hwQ => v_fa fa261_0 rfl (by first | exact gve hc rfl | exact gve (and_l hc) rfl | exact gve (and_l (and_l hc)) rfl | rfl)) ?_
  refine q_gval rfl rfl rfl (by first | exact w_ff rfl | exact w_gf rfl) (fun hc w cx hwQ => v_load1 rfl (by first | exact gve hc rfl | exact gve (and_l hc) rfl | exact gve (and_l (and_l hc)) rfl | rfl) Tryz.underlying9 rfl ((cx.row 0 rfl).cell 0 rfl)) ?_
  refine q_gval rfl rfl rfl (by first | exact w_ff rfl | exact w_gf rfl) (fun hc w cx hwQ => v_move rfl (by first | exact gve hc rfl | exact gve (and_l hc) rfl | exact gve (and_l (and_l hc)) rfl | rfl)) ?_
  refine q_gval rfl rfl rfl (by first | exact w_ff rfl | exact w_gf rfl) (fun hc w cx hwQ => v_nilCk rfl (by first | exact gve hc rfl | exact gve (and_l hc) rfl | exact gve (and_l (and_l hc)) rfl | rfl)) ?_
  refine q_gval rfl rfl rfl (by first | exact w_ff rfl | exact w_gf rfl) (fun hc w cx hwQ => v_fa fa261_1 rfl (by first | exact gve hc rfl | exact gve (and_l hc) rfl | exact gve (and_l (and_l hc)) rfl | rfl)) ?_
  refine q_gval rfl rfl rfl (by first | exact w_ff rfl | exact w_gf rfl) (fun hc w cx hwQ => v_load1 rfl (by first | exact gve hc rfl | exact gve (and_l hc) rfl | exact gve (and_l (and_l hc)) rfl | rfl) Tryz.underlying3 rfl ((cx.row 0 rfl).cell 1 rfl)) ?_
  refine q_gval rfl rfl rfl (by first | exact w_ff rfl | exact w_gf rfl) (fun hc w cx hwQ => v_move rfl (by first | exact gve hc rfl | exact gve (and_l hc) rfl | exact gve (and_l (and_l hc)) rfl | rfl)) ?_
  refine q_gval rfl rfl rfl (by first | exact w_ff rfl | exact w_gf rfl) (fun hc w cx hwQ => v_nilCk rfl (by first | exact gve hc rfl | exact gve (and_l hc) rfl | exact gve (and_l (and_l hc)) rfl | rfl)) ?_
  refine q_gval rfl rfl rfl (by first | exact w_ff rfl | exact w_gf rfl) (fun hc w cx hwQ => v_fa fa261_1 rfl (by first | exact gve hc rfl | exact gve (and_l hc) rfl | exact gve (and_l (and_l hc)) rfl | rfl)) ?_
  refine q_gval rfl rfl rfl (by first | exact w_ff rfl | exact w_gf rfl) (fun hc w cx hwQ => v_load1 rfl (by first | exact gve hc rfl | exact gve (and_l hc) rfl | exact gve (and_l (and_l hc)) rfl | rfl) Tryz.underlying3 rfl ((cx.row 0 rfl).cell 1 rfl)) ?_
  refine q_gval rfl rfl rfl (by first | exact w_ff rfl | exact w_gf rfl) (fun hc w cx hwQ => v_move rfl (by first | exact gve hc rfl | exact gve (and_l hc) rfl | exact gve (and_l (and_l hc)) rfl | rfl)) ?_
  refine q_gval rfl rfl rfl (by first | exact w_ff rfl | exact w_gf rfl) (fun hc w cx hwQ => v_lenB rfl (by first | exact gve hc rfl | exact gve (and_l hc) rfl | exact gve (and_l (and_l hc)) rfl | rfl) Tryz.underlying9) ?_
  refine q_gval rfl rfl rfl (by first | exact w_ff rfl | exact w_gf rfl) (fun hc w cx hwQ => v_add rfl (by first | exact gve hc rfl | exact gve (and_l hc) rfl | exact gve (and_l (and_l hc)) rfl | rfl) (by first | exact gve hc rfl | exact gve (and_l hc) rfl | exact gve (and_l (and_l hc)) rfl | rfl) (by first | omega | (simp only [Bool.and_eq_true, Bool.or_eq_true, Bool.and_eq_false_iff, Bool.or_eq_false_iff, Bool.not_eq_true', Bool.not_eq_false', decide_eq_true_eq, decide_eq_false_iff_not, beq_iff_eq, beq_eq_false_iff_ne, bne_iff_ne, bne_eq_false_iff_eq, ne_eq, Classical.not_not] at hc; omega)) (by first | omega | (simp only [Bool.and_eq_true, Bool.or_eq_true, Bool.and_eq_false_iff, Bool.or_eq_false_iff, Bool.not_eq_true', Bool.not_eq_false', decide_eq_true_eq, decide_eq_false_iff_not, beq_iff_eq, beq_eq_false_iff_ne, bne_iff_ne, bne_eq_false_iff_eq, ne_eq, Classical.not_not] at hc; omega))) ?_
  refine q_gval rfl rfl rfl (by first | exact w_ff rfl | exact w_gf rfl) (fun hc w cx hwQ => v_cutMid rfl (by first | exact gve hc rfl | exact gve (and_l hc) rfl | exact gve (and_l (and_l hc)) rfl | rfl) (by first | exact gve hc rfl | exact gve (and_l hc) rfl | exact gve (and_l (and_l hc)) rfl | rfl) (by first | exact gve hc rfl | exact gve (and_l hc) rfl | exact gve (and_l (and_l hc)) rfl | rfl) Tryz.underlying9 (by first | omega | (simp only [Bool.and_eq_true, Bool.or_eq_true, Bool.and_eq_false_iff, Bool.or_eq_false_iff, Bool.not_eq_true', Bool.not_eq_false', decide_eq_true_eq, decide_eq_false_iff_not, beq_iff_eq, beq_eq_false_iff_ne, bne_iff_ne, bne_eq_false_iff_eq, ne_eq, Classical.not_not] at hc; omega)) (by first | omega | (simp only [Bool.and_eq_true, Bool.or_eq_true, Bool.and_eq_false_iff, Bool.or_eq_false_iff, Bool.not_eq_true', Bool.not_eq_false', decide_eq_true_eq, decide_eq_false_iff_not, beq_iff_eq, beq_eq_false_iff_ne, bne_iff_ne, bne_eq_false_iff_eq, ne_eq, Classical.not_not] at hc; omega)) (by first | omega | (simp only [Bool.and_eq_true, Bool.or_eq_true, Bool.and_eq_false_iff, Bool.or_eq_false_iff, Bool.not_eq_true', Bool.not_eq_false', decide_eq_true_eq, decide_eq_false_iff_not, beq_iff_eq, beq_eq_false_iff_ne, bne_iff_ne, bne_eq_false_iff_eq, ne_eq, Classical.not_not] at hc; omega))) ?_
  refine q_gval rfl rfl rfl (by first | exact w_ff rfl | exact w_gf rfl) (fun hc w cx hwQ => v_move rfl (by first | exact gve hc rfl | exact gve (and_l hc) rfl | exact gve (and_l (and_l hc)) rfl | rfl)) ?_
  refine q_gval rfl rfl rfl (by first | exact w_ff rfl | exact w_gf rfl) (fun hc w cx hwQ => v_neB rfl (by first | exact gve hc rfl | exact gve (and_l hc) rfl | exact gve (and_l (and_l hc)) rfl | rfl) (by first | exact gve hc rfl | exact gve (and_l hc) rfl | exact gve (and_l (and_l hc)) rfl | rfl)) ?_
  refine q_val rfl rfl (fun w cx hwQ => v_or rfl rfl rfl rfl) ?_
  refine q_nil ?_; rintro w ⟨cx, hwQ0⟩
  refine c_split rfl (fun hc42 => ?_) (fun hc42 => ?_)
  · skip
    try simp only [Bool.and_eq_true, Bool.or_eq_true, Bool.and_eq_false_iff, Bool.or_eq_false_iff, Bool.not_eq_true', Bool.not_eq_false', decide_eq_true_eq, decide_eq_false_iff_not, beq_iff_eq, beq_eq_false_iff_ne, bne_iff_ne, bne_eq_false_iff_eq, ne_eq, Classical.not_not] at hc42
    exfalso
    rcases hc42 with (h | h) | h
    · cases h
    · omega
    · exact h (by rw [show Int.toNat ((p : Int) + (a.length : Int)) = p + a.length by omega, Int.toNat_natCast]; exact ha)
  · skip
    try simp only [Bool.and_eq_true, Bool.or_eq_true, Bool.and_eq_false_iff, Bool.or_eq_false_iff, Bool.not_eq_true', Bool.not_eq_false', decide_eq_true_eq, decide_eq_false_iff_not, beq_iff_eq, beq_eq_false_iff_ne, bne_iff_ne, bne_eq_false_iff_eq, ne_eq, Classical.not_not] at hc42
    refine wp_skip ?_
    refine wp_region_lit ?_
    refine s_val rfl rfl (v_move rfl rfl) ?_
    refine s_val rfl rfl (v_nilCk rfl rfl) ?_
    refine s_val rfl rfl (v_fa fa261_1 rfl rfl) ?_
    refine s_val rfl rfl (v_load1 rfl rfl Tryz.underlying3 rfl ((cx.row 0 rfl).cell 1 rfl)) ?_
    refine s_val rfl rfl (v_move rfl rfl) ?_
    refine s_val rfl rfl (v_lenB rfl rfl Tryz.underlying9) ?_
    refine s_val rfl rfl (v_add rfl rfl rfl (by omega) (by omega)) ?_
    refine s_val rfl rfl (v_nilCk rfl rfl) ?_
    refine s_val rfl rfl (v_fa fa261_1 rfl rfl) ?_
    refine s_store1 (v := .int .i64 ((p + a.length : Nat) : Int)) cx 0 rfl rfl rfl rfl rfl rfl rfl rfl sz3 ?_; intro w cx hwS2
    refine wpList_nil ?_
    refine ret_no (.inr rfl) Tryz.results320 ?_
    exact ⟨rfl, cx⟩
set_option maxHeartbeats 4000000 in
set_option maxRecDepth 10000 in
theorem c321s (wb w0 : World) (b p : Nat) (s : List UInt8) (c x : UInt8) (L : List (Nat × Obj)) (R : List Row) (cx0 : Cxr wb w0 ((b, .cells ([.string (bs s), .int .i64 p, .bool false] : List Value).toArray 261) :: L) R) (hp : p < s.length) (hs : s.length ≤ 1073741824) (hx : s.getD p 0 = x) (hc : shq c = x) (hx0 : x ≠ 0) : Ret Tryz.prog 321 [.pointer (some ⟨b, 0, none⟩)] w0 (fun v w' => v = .int .u8 (c.toNat : Nat) ∧ Cxr wb w' ((b, .cells ([.string (bs s), .int .i64 (p + 1 : Nat), .bool false] : List Value).toArray 261) :: L) R) := by
  refine ret_enter Tryz.func321 rfl Tryz.ntmps321 rfl ?_
  have cx := cx0
  refine wp_seq ?_
  refine wp_region_lit ?_
  refine s_val rfl rfl (v_assign rfl rfl) ?_
  refine wpList_nil ?_
  refine wp_seq ?_
  refine wp_region_lit ?_
  refine s_val rfl rfl (v_move rfl rfl) ?_
  refine s_fn cx (c248 s _ b _ (cx.row 0 rfl) (by omega)) Tryz.func248 rfl rfl rfl rfl rfl rfl ?_; intro q8 w cx hw8 hp8
  subst hp8
  refine s_val rfl rfl (v_assign rfl rfl) ?_
  refine wpList_nil ?_
  refine wp_seq ?_
  refine wp_seq ?_
  refine wp_region_lit ?_
  refine s_val rfl rfl (v_move rfl rfl) ?_
  refine wpList_nil ?_
  refine wp_block ?_
  refine w_loop (fun g f w1 => ∃ i : Nat, g + i = 128 ∧ f 0 = .pointer (some ⟨b, 0, none⟩) ∧ f 9 = .int .i64 i ∧ f 3 = .int .u8 (x.toNat : Nat) ∧ (∀ j : Nat, j < i → shq (UInt8.ofNat j) ≠ x) ∧ Cxr wb w1 ((b, .cells ([.string (bs s), .int .i64 p, .bool false] : List Value).toArray 261) :: L) R) (128) ?_ ?_
  · skip
    exact ⟨0, by omega, rfl, rfl, congrArg (fun z : UInt8 => Value.int .u8 ((z.toNat : Nat) : Int)) hx, fun j h => by omega, cx⟩
  intro gk3 f w hJ
  obtain ⟨i, hgi, hs0, hs9, hs3, hall, cx⟩ := hJ
  refine wp_seq ?_
  refine wp_region_lit ?_
  refine s_val rfl rfl (v_cmp rfl hs9 rfl rfl) ?_
  refine wpList_nil ?_
  refine wp_seq ?_
  refine c_split rfl (fun hc10 => ?_) (fun hc10 => ?_)
  · skip
    try simp only [Bool.and_eq_true, Bool.or_eq_true, Bool.and_eq_false_iff, Bool.or_eq_false_iff, Bool.not_eq_true', Bool.not_eq_false', decide_eq_true_eq, decide_eq_false_iff_not, beq_iff_eq, beq_eq_false_iff_ne, bne_iff_ne, bne_eq_false_iff_eq, ne_eq, Classical.not_not] at hc10
    refine wp_skip ?_
    refine wp_seq ?_
    refine wp_block ?_
    refine wp_seq ?_
    refine wp_region_lit ?_
    refine s_val rfl rfl (v_move rfl hs9) ?_
    refine s_val rfl rfl (v_assign rfl rfl) ?_
    refine wpList_nil ?_
    refine wp_seq ?_
    refine wp_region_lit ?_
    refine s_val rfl rfl (v_move rfl rfl) ?_
    refine s_val rfl rfl ((show (execOp _ _).run Tryz.prog _ = .ok (.value (.int .u8 ((i : Nat) : Int))) _ from (v_conv rfl rfl Tryz.underlying3 Tryz.underlying5).trans (by rw [u8_in (by omega)]))) ?_
    refine s_fn cx (of_allB shq_k ((i : Nat) : Int) (by omega) (by omega) _) Tryz.func302 rfl rfl rfl rfl rfl rfl ?_; intro q14 w cx hw14 hp14
    subst hp14
    refine s_val rfl rfl (v_move rfl hs3) ?_
    refine s_val rfl rfl (v_cmp rfl rfl rfl rfl) ?_
    refine s_val rfl rfl (v_move rfl rfl) ?_
    refine s_gval rfl rfl rfl (by first | exact w_tt rfl | exact w_gt rfl) (fun hc => v_move rfl hs3) ?_
    refine s_gval rfl rfl rfl (by first | exact w_tt rfl | exact w_gt rfl) (fun hc => v_cmp rfl (by first | exact gve hc rfl | exact gve (and_l hc) rfl | exact gve (and_l (and_l hc)) rfl | rfl) rfl rfl) ?_
    refine s_val rfl rfl (v_and rfl rfl rfl rfl) ?_
    refine wpList_nil ?_
    refine c_split rfl (fun hc20 => ?_) (fun hc20 => ?_)
    · skip
      try simp only [Bool.and_eq_true, Bool.or_eq_true, Bool.and_eq_false_iff, Bool.or_eq_false_iff, Bool.not_eq_true', Bool.not_eq_false', decide_eq_true_eq, decide_eq_false_iff_not, beq_iff_eq, beq_eq_false_iff_ne, bne_iff_ne, bne_eq_false_iff_eq, ne_eq, Classical.not_not] at hc20
      have hT20 : shq (UInt8.ofNat i) = x := by
        have h := hc20.1
        refine UInt8.toNat_inj.1 (Int.ofNat.inj ?_)
        exact h
      refine wp_seq ?_
      refine wp_region_lit ?_
      refine s_val rfl rfl (v_move rfl hs0) ?_
      refine s_val rfl rfl (v_nilCk rfl rfl) ?_
      refine s_val rfl rfl (v_fa fa261_1 rfl rfl) ?_
      refine s_val rfl rfl (v_load1 rfl rfl Tryz.underlying3 rfl ((cx.row 0 rfl).cell 1 rfl)) ?_
      refine s_val rfl rfl (v_add rfl rfl rfl (by omega) (by omega)) ?_
      refine s_val rfl rfl (v_nilCk rfl rfl) ?_
      refine s_val rfl rfl (v_fa fa261_1 rfl rfl) ?_
      refine s_store1 (v := .int .i64 ((p + 1 : Nat) : Int)) cx 0 rfl rfl rfl rfl rfl rfl rfl rfl sz3 ?_; intro w cx hwS6
      refine wpList_nil ?_
      refine wp_seq ?_
      refine wp_region_lit ?_
      refine s_val rfl rfl (v_move rfl rfl) ?_
      refine s_val rfl rfl ((show (execOp _ _).run Tryz.prog _ = .ok (.value (.int .u8 ((i : Nat) : Int))) _ from (v_conv rfl rfl Tryz.underlying3 Tryz.underlying5).trans (by rw [u8_in (by omega)]))) ?_
      refine s_val rfl rfl (v_assign rfl rfl) ?_
      refine wpList_nil ?_
      refine wp_ret ?_
      refine ret_tmp Tryz.results321 rfl ?_
      refine ⟨?_, cx⟩
      exact congrArg (fun z : Nat => Value.int .u8 (z : Int)) (shq_inj (by omega) (hT20.trans hc.symm) (by rw [hc]; exact hx0))
    · skip
      try simp only [Bool.and_eq_true, Bool.or_eq_true, Bool.and_eq_false_iff, Bool.or_eq_false_iff, Bool.not_eq_true', Bool.not_eq_false', decide_eq_true_eq, decide_eq_false_iff_not, beq_iff_eq, beq_eq_false_iff_ne, bne_iff_ne, bne_eq_false_iff_eq, ne_eq, Classical.not_not] at hc20
      have hN20 : shq (UInt8.ofNat i) ≠ x := by
        intro e
        rcases hc20 with h | h
        · exact h (by rw [← e]; rfl)
        · exact hx0 (UInt8.toNat_inj.1 (show x.toNat = 0 by omega))
      refine wp_skip ?_
      refine wp_region_lit ?_
      refine s_val rfl rfl (v_add rfl hs9 rfl (by omega) (by omega)) ?_
      refine s_val rfl rfl (v_move rfl rfl) ?_
      refine wpList_nil ?_
      refine ⟨gk3 - 1, _, by omega, rfl, i + 1, by omega, hs0, rfl, hs3, fun j hj => ?_, cx⟩
      rcases Nat.lt_or_ge j i with h1 | h1
      · exact hall j h1
      · obtain rfl : j = i := by omega
        intro e
        subst e
        exact hN20 rfl
  · skip
    try simp only [Bool.and_eq_true, Bool.or_eq_true, Bool.and_eq_false_iff, Bool.or_eq_false_iff, Bool.not_eq_true', Bool.not_eq_false', decide_eq_true_eq, decide_eq_false_iff_not, beq_iff_eq, beq_eq_false_iff_ne, bne_iff_ne, bne_eq_false_iff_eq, ne_eq, Classical.not_not] at hc10
    have hlt := ((shq_f c).1 (by rw [hc]; exact hx0)).1
    exfalso
    exact hall c.toNat (by omega) (by rw [UInt8.ofNat_toNat]; exact hc)
set_option maxHeartbeats 4000000 in
set_option maxRecDepth 10000 in
theorem c321u (wb w0 : World) (b p : Nat) (s z : List UInt8) (c : UInt8) (L : List (Nat × Obj)) (R : List Row) (cx0 : Cxr wb w0 ((b, .cells ([.string (bs s), .int .i64 p, .bool false] : List Value).toArray 261) :: L) R) (hs : s.length ≤ 1073741824) (hc : c.toNat < 32) (hd : s.drop p = [117, 48, 48, hexd (c.toNat / 16), hexd (c.toNat % 16)] ++ z) : Ret Tryz.prog 321 [.pointer (some ⟨b, 0, none⟩)] w0 (fun v w' => v = .int .u8 (c.toNat : Nat) ∧ Cxr wb w' ((b, .cells ([.string (bs s), .int .i64 (p + 5 : Nat), .bool false] : List Value).toArray 261) :: L) R) := by
  have hL := drop_len s _ p hd (by simp)
  simp only [List.length_append, List.length_cons, List.length_nil] at hL
  have hx : s.getD p 0 = 117 := by
    have := getD_drop s p 0
    rw [hd] at this
    exact this
  refine ret_enter Tryz.func321 rfl Tryz.ntmps321 rfl ?_
  have cx := cx0
  refine wp_seq ?_
  refine wp_region_lit ?_
  refine s_val rfl rfl (v_assign rfl rfl) ?_
  refine wpList_nil ?_
  refine wp_seq ?_
  refine wp_region_lit ?_
  refine s_val rfl rfl (v_move rfl rfl) ?_
  refine s_fn cx (c248 s _ b _ (cx.row 0 rfl) (by omega)) Tryz.func248 rfl rfl rfl rfl rfl rfl ?_; intro q8 w cx hw8 hp8
  subst hp8
  refine s_val rfl rfl (v_assign rfl rfl) ?_
  refine wpList_nil ?_
  refine wp_seq ?_
  refine wp_seq ?_
  refine wp_region_lit ?_
  refine s_val rfl rfl (v_move rfl rfl) ?_
  refine wpList_nil ?_
  refine wp_block ?_
  refine w_loop (fun g f w1 => ∃ i : Nat, g + i = 128 ∧ f 0 = .pointer (some ⟨b, 0, none⟩) ∧ f 9 = .int .i64 i ∧ f 3 = .int .u8 ((117 : Nat) : Int) ∧ Cxr wb w1 ((b, .cells ([.string (bs s), .int .i64 p, .bool false] : List Value).toArray 261) :: L) R) (128) ?_ ?_
  · skip
    exact ⟨0, by omega, rfl, rfl, congrArg (fun z : UInt8 => Value.int .u8 ((z.toNat : Nat) : Int)) hx, cx⟩
  intro gk3 f w hJ
  obtain ⟨i, hgi, hs0, hs9, hs3, cx⟩ := hJ
  refine wp_seq ?_
  refine wp_region_lit ?_
  refine s_val rfl rfl (v_cmp rfl hs9 rfl rfl) ?_
  refine wpList_nil ?_
  refine wp_seq ?_
  refine c_split rfl (fun hc10 => ?_) (fun hc10 => ?_)
  · skip
    try simp only [Bool.and_eq_true, Bool.or_eq_true, Bool.and_eq_false_iff, Bool.or_eq_false_iff, Bool.not_eq_true', Bool.not_eq_false', decide_eq_true_eq, decide_eq_false_iff_not, beq_iff_eq, beq_eq_false_iff_ne, bne_iff_ne, bne_eq_false_iff_eq, ne_eq, Classical.not_not] at hc10
    refine wp_skip ?_
    refine wp_seq ?_
    refine wp_block ?_
    refine wp_seq ?_
    refine wp_region_lit ?_
    refine s_val rfl rfl (v_move rfl hs9) ?_
    refine s_val rfl rfl (v_assign rfl rfl) ?_
    refine wpList_nil ?_
    refine wp_seq ?_
    refine wp_region_lit ?_
    refine s_val rfl rfl (v_move rfl rfl) ?_
    refine s_val rfl rfl ((show (execOp _ _).run Tryz.prog _ = .ok (.value (.int .u8 ((i : Nat) : Int))) _ from (v_conv rfl rfl Tryz.underlying3 Tryz.underlying5).trans (by rw [u8_in (by omega)]))) ?_
    refine s_fn cx (of_allB shq_k ((i : Nat) : Int) (by omega) (by omega) _) Tryz.func302 rfl rfl rfl rfl rfl rfl ?_; intro q14 w cx hw14 hp14
    subst hp14
    refine s_val rfl rfl (v_move rfl hs3) ?_
    refine s_val rfl rfl (v_cmp rfl rfl rfl rfl) ?_
    refine s_val rfl rfl (v_move rfl rfl) ?_
    refine s_gval rfl rfl rfl (by first | exact w_tt rfl | exact w_gt rfl) (fun hc => v_move rfl hs3) ?_
    refine s_gval rfl rfl rfl (by first | exact w_tt rfl | exact w_gt rfl) (fun hc => v_cmp rfl (by first | exact gve hc rfl | exact gve (and_l hc) rfl | exact gve (and_l (and_l hc)) rfl | rfl) rfl rfl) ?_
    refine s_val rfl rfl (v_and rfl rfl rfl rfl) ?_
    refine wpList_nil ?_
    refine c_split rfl (fun hc20 => ?_) (fun hc20 => ?_)
    · skip
      try simp only [Bool.and_eq_true, Bool.or_eq_true, Bool.and_eq_false_iff, Bool.or_eq_false_iff, Bool.not_eq_true', Bool.not_eq_false', decide_eq_true_eq, decide_eq_false_iff_not, beq_iff_eq, beq_eq_false_iff_ne, bne_iff_ne, bne_eq_false_iff_eq, ne_eq, Classical.not_not] at hc20
      exfalso
      have h : shq (UInt8.ofNat i) = 117 := UInt8.toNat_inj.1 (Int.ofNat.inj (show Int.ofNat (shq (UInt8.ofNat i)).toNat = Int.ofNat 117 from hc20.1))
      have h2 := (shq_f (UInt8.ofNat i)).1
      rw [h] at h2
      exact (h2 (by decide)).2 rfl
    · skip
      try simp only [Bool.and_eq_true, Bool.or_eq_true, Bool.and_eq_false_iff, Bool.or_eq_false_iff, Bool.not_eq_true', Bool.not_eq_false', decide_eq_true_eq, decide_eq_false_iff_not, beq_iff_eq, beq_eq_false_iff_ne, bne_iff_ne, bne_eq_false_iff_eq, ne_eq, Classical.not_not] at hc20
      refine wp_skip ?_
      refine wp_region_lit ?_
      refine s_val rfl rfl (v_add rfl hs9 rfl (by omega) (by omega)) ?_
      refine s_val rfl rfl (v_move rfl rfl) ?_
      refine wpList_nil ?_
      exact ⟨gk3 - 1, _, by omega, rfl, i + 1, by omega, hs0, rfl, hs3, cx⟩
  · skip
    try simp only [Bool.and_eq_true, Bool.or_eq_true, Bool.and_eq_false_iff, Bool.or_eq_false_iff, Bool.not_eq_true', Bool.not_eq_false', decide_eq_true_eq, decide_eq_false_iff_not, beq_iff_eq, beq_eq_false_iff_ne, bne_iff_ne, bne_eq_false_iff_eq, ne_eq, Classical.not_not] at hc10
    refine wp_exit ?_
    refine wp_seq ?_
    refine wp_region_lit ?_
    refine s_val rfl rfl (v_move rfl hs0) ?_
    refine s_call (c320 wb _ b p s [117, 48, 48] L R cx (by simp only [List.length_cons, List.length_nil]; omega) hs (take_drop_at s [117, 48, 48] _ p 3 hd rfl)) Tryz.func320 rfl rfl rfl rfl rfl rfl ?_; rintro v32 w ⟨hv32, cx⟩
    refine wpList_nil ?_
    refine wp_seq ?_
    refine wp_region_lit ?_
    refine s_val rfl rfl (v_assign rfl rfl) ?_
    refine wpList_nil ?_
    refine wp_seq ?_
    refine wp_seq ?_
    refine wp_region_lit ?_
    refine s_val rfl rfl (v_move rfl rfl) ?_
    refine wpList_nil ?_
    refine wp_block ?_
    refine w_loop (fun g f w1 => ∃ m : Nat, g + m = 2 ∧ f 0 = .pointer (some ⟨b, 0, none⟩) ∧ f 33 = .int .i64 m ∧ f 5 = .int .i64 (esV c.toNat m : Nat) ∧ Cxr wb w1 ((b, .cells ([.string (bs s), .int .i64 (p + 3 + m : Nat), .bool false] : List Value).toArray 261) :: L) R) (2) ?_ ?_
    · skip
      exact ⟨0, by omega, hs0, rfl, congrArg (fun z : Nat => Value.int .i64 (z : Int)) (show 0 = esV c.toNat 0 by unfold esV; simp; omega), cx⟩
    intro gk12 f w hJ
    obtain ⟨m, hgm, hs0, hs33, hs5, cx⟩ := hJ
    refine wp_seq ?_
    refine wp_region_lit ?_
    refine s_val rfl rfl (v_cmp rfl hs33 rfl rfl) ?_
    refine wpList_nil ?_
    refine wp_seq ?_
    refine c_split rfl (fun hc34 => ?_) (fun hc34 => ?_)
    · skip
      try simp only [Bool.and_eq_true, Bool.or_eq_true, Bool.and_eq_false_iff, Bool.or_eq_false_iff, Bool.not_eq_true', Bool.not_eq_false', decide_eq_true_eq, decide_eq_false_iff_not, beq_iff_eq, beq_eq_false_iff_ne, bne_iff_ne, bne_eq_false_iff_eq, ne_eq, Classical.not_not] at hc34
      refine wp_skip ?_
      refine wp_seq ?_
      refine wp_block ?_
      refine wp_seq ?_
      refine wp_region_lit ?_
      refine s_val rfl rfl (v_assign rfl rfl) ?_
      refine wpList_nil ?_
      refine wp_seq ?_
      refine wp_block ?_
      obtain ⟨d, hd16, hdd, hv31, hst⟩ := es_step (m := m) (c := c.toNat) (by omega) hc
      have hdx : s.getD (p + 3 + m) 0 = hexd d := by
        rw [Nat.add_assoc, getD_drop, hd, ← hdd]
        have h2 : m = 0 ∨ m = 1 := by omega
        rcases h2 with rfl | rfl <;> rfl
      refine w_loop (fun g f w1 => ∃ k : Nat, g + k = 16 ∧ k ≤ d ∧ f 0 = .pointer (some ⟨b, 0, none⟩) ∧ f 33 = .int .i64 m ∧ f 5 = .int .i64 (esV c.toNat m : Nat) ∧ f 6 = .int .i64 k ∧ Cxr wb w1 ((b, .cells ([.string (bs s), .int .i64 (p + 3 + m : Nat), .bool false] : List Value).toArray 261) :: L) R) (16) ?_ ?_
      · skip
        exact ⟨0, by omega, by omega, hs0, hs33, hs5, rfl, cx⟩
      intro gk14 f w hJ
      obtain ⟨k, hgk, hkd0, hs0, hs33, hs5, hs6, cx⟩ := hJ
      refine wp_seq ?_
      refine wp_seq ?_
      refine w_quiet cx mixed (by kernel_rfl) ?_
      refine q_val rfl rfl (fun w cx hwQ => v_move rfl hs6) ?_
      refine q_val rfl rfl (fun w cx hwQ => v_cmp rfl rfl rfl rfl) ?_
      refine q_val rfl rfl (fun w cx hwQ => v_move rfl rfl) ?_
      refine q_gval rfl rfl rfl (by first | exact w_tt rfl | exact w_gt rfl) (fun hc w cx hwQ => v_move rfl hs6) ?_
      refine q_gval rfl rfl rfl (by first | exact w_tt rfl | exact w_gt rfl) (fun hc w cx hwQ => v_idxB (s := [48, 49, 50, 51, 52, 53, 54, 55, 56, 57, 97, 98, 99, 100, 101, 102]) rfl rfl (by first | exact gve hc rfl | exact gve (and_l hc) rfl | exact gve (and_l (and_l hc)) rfl | rfl) Tryz.underlying9 (by first | omega | (simp only [Bool.and_eq_true, Bool.or_eq_true, Bool.and_eq_false_iff, Bool.or_eq_false_iff, Bool.not_eq_true', Bool.not_eq_false', decide_eq_true_eq, decide_eq_false_iff_not, beq_iff_eq, beq_eq_false_iff_ne, bne_iff_ne, bne_eq_false_iff_eq, ne_eq, Classical.not_not] at hc; omega)) (by first | omega | (simp only [Bool.and_eq_true, Bool.or_eq_true, Bool.and_eq_false_iff, Bool.or_eq_false_iff, Bool.not_eq_true', Bool.not_eq_false', decide_eq_true_eq, decide_eq_false_iff_not, beq_iff_eq, beq_eq_false_iff_ne, bne_iff_ne, bne_eq_false_iff_eq, ne_eq, Classical.not_not] at hc; omega))) ?_
      refine q_gval rfl rfl rfl (by first | exact w_tt rfl | exact w_gt rfl) (fun hc w cx hwQ => v_move rfl hs0) ?_
      refine q_gcall (v := .int .u8 ((s.getD (p + 3 + m) 0).toNat : Nat)) rfl rfl rfl (by first | exact w_tt rfl | exact w_gt rfl) (fun hc => runs_fn Tryz.func248 rfl rfl rfl (cons_eq (by first | exact gve hc rfl | exact gve (and_l hc) rfl | rfl) rfl)) (fun hc w cx hwQ => c248 s (p + 3 + m) b _ (cx.row 0 rfl) (by omega)) ?_
      refine q_gval rfl rfl rfl (by first | exact w_tt rfl | exact w_gt rfl) (fun hc w cx hwQ => v_cmp rfl (by first | exact gve hc rfl | exact gve (and_l hc) rfl | exact gve (and_l (and_l hc)) rfl | rfl) (by first | exact gve hc rfl | exact gve (and_l hc) rfl | exact gve (and_l (and_l hc)) rfl | rfl) rfl) ?_
      refine q_val rfl rfl (fun w cx hwQ => v_and rfl rfl rfl rfl) ?_
      refine q_nil ?_; rintro w ⟨cx, hwQ14⟩
      refine c_split rfl (fun hc43 => ?_) (fun hc43 => ?_)
      · skip
        try simp only [Bool.and_eq_true, Bool.or_eq_true, Bool.and_eq_false_iff, Bool.or_eq_false_iff, Bool.not_eq_true', Bool.not_eq_false', decide_eq_true_eq, decide_eq_false_iff_not, beq_iff_eq, beq_eq_false_iff_ne, bne_iff_ne, bne_eq_false_iff_eq, ne_eq, Classical.not_not] at hc43
        have hkd : k < d := by
          rcases Nat.lt_or_ge k d with h | h
          · exact h
          · exfalso
            obtain rfl : k = d := by omega
            apply hc43.2
            show ((hexS.getD (Int.toNat (k : Int)) 0).toNat : Int) = _
            rw [Int.toNat_natCast, hexS_get k hd16, hdx]
        refine wp_skip ?_
        refine wp_block ?_
        refine wp_region_lit ?_
        refine s_val rfl rfl (v_move rfl hs6) ?_
        refine s_val rfl rfl (v_add rfl rfl rfl (by omega) (by omega)) ?_
        refine s_val rfl rfl (v_assign rfl rfl) ?_
        refine wpList_nil ?_
        exact ⟨gk14 - 1, _, by omega, rfl, k + 1, by omega, by omega, hs0, hs33, hs5, rfl, cx⟩
      · skip
        try simp only [Bool.and_eq_true, Bool.or_eq_true, Bool.and_eq_false_iff, Bool.or_eq_false_iff, Bool.not_eq_true', Bool.not_eq_false', decide_eq_true_eq, decide_eq_false_iff_not, beq_iff_eq, beq_eq_false_iff_ne, bne_iff_ne, bne_eq_false_iff_eq, ne_eq, Classical.not_not] at hc43
        have hkd : k = d := by
          rcases hc43 with h | h
          · omega
          · have h1 : ((hexS.getD (Int.toNat (k : Int)) 0).toNat : Int) = ((s.getD (p + 3 + m) 0).toNat : Int) := h
            rw [Int.toNat_natCast, hexS_get k (by omega), hdx] at h1
            exact hexd_inj (by omega) hd16 (UInt8.toNat_inj.1 (Int.ofNat.inj h1))
        subst hkd
        refine wp_exit ?_
        refine wp_seq ?_
        refine wp_seq ?_
        refine wp_region_lit ?_
        refine s_val rfl rfl (v_move rfl hs6) ?_
        refine s_val rfl rfl (v_cmp rfl rfl rfl rfl) ?_
        refine wpList_nil ?_
        refine c_split rfl (fun hc47 => ?_) (fun hc47 => ?_)
        · skip
          try simp only [Bool.and_eq_true, Bool.or_eq_true, Bool.and_eq_false_iff, Bool.or_eq_false_iff, Bool.not_eq_true', Bool.not_eq_false', decide_eq_true_eq, decide_eq_false_iff_not, beq_iff_eq, beq_eq_false_iff_ne, bne_iff_ne, bne_eq_false_iff_eq, ne_eq, Classical.not_not] at hc47
          exfalso
          omega
        · skip
          try simp only [Bool.and_eq_true, Bool.or_eq_true, Bool.and_eq_false_iff, Bool.or_eq_false_iff, Bool.not_eq_true', Bool.not_eq_false', decide_eq_true_eq, decide_eq_false_iff_not, beq_iff_eq, beq_eq_false_iff_ne, bne_iff_ne, bne_eq_false_iff_eq, ne_eq, Classical.not_not] at hc47
          refine wp_skip ?_
          refine wp_seq ?_
          refine wp_region_lit ?_
          refine s_val rfl rfl (v_move rfl hs5) ?_
          refine s_val rfl rfl (v_mul rfl rfl rfl (by omega) (by omega)) ?_
          refine s_val rfl rfl (v_move rfl hs6) ?_
          refine s_val rfl rfl (v_add rfl rfl rfl (by omega) (by omega)) ?_
          refine s_val rfl rfl (v_assign rfl rfl) ?_
          refine wpList_nil ?_
          refine wp_region_lit ?_
          refine s_val rfl rfl (v_move rfl hs0) ?_
          refine s_val rfl rfl (v_nilCk rfl rfl) ?_
          refine s_val rfl rfl (v_fa fa261_1 rfl rfl) ?_
          refine s_val rfl rfl (v_load1 rfl rfl Tryz.underlying3 rfl ((cx.row 0 rfl).cell 1 rfl)) ?_
          refine s_val rfl rfl (v_add rfl rfl rfl (by omega) (by omega)) ?_
          refine s_val rfl rfl (v_nilCk rfl rfl) ?_
          refine s_val rfl rfl (v_fa fa261_1 rfl rfl) ?_
          refine s_store1 (v := .int .i64 ((p + 3 + m + 1 : Nat) : Int)) cx 0 rfl rfl rfl rfl rfl rfl rfl rfl sz3 ?_; intro w cx hwS20
          refine wpList_nil ?_
          refine wp_region_lit ?_
          refine s_val rfl rfl (v_add rfl hs33 rfl (by omega) (by omega)) ?_
          refine s_val rfl rfl (v_move rfl rfl) ?_
          refine wpList_nil ?_
          exact ⟨gk12 - 1, _, by omega, rfl, m + 1, by omega, hs0, rfl, congrArg (fun z : Nat => Value.int .i64 (z : Int)) hst, cx⟩
    · skip
      try simp only [Bool.and_eq_true, Bool.or_eq_true, Bool.and_eq_false_iff, Bool.or_eq_false_iff, Bool.not_eq_true', Bool.not_eq_false', decide_eq_true_eq, decide_eq_false_iff_not, beq_iff_eq, beq_eq_false_iff_ne, bne_iff_ne, bne_eq_false_iff_eq, ne_eq, Classical.not_not] at hc34
      refine wp_exit ?_
      refine wp_seq ?_
      refine wp_region_lit ?_
      obtain rfl : m = 2 := by omega
      have he2 : esV c.toNat 2 = c.toNat := by simp [esV]
      refine s_val rfl rfl (v_move rfl hs5) ?_
      refine s_val rfl rfl ((show (execOp _ _).run Tryz.prog _ = .ok (.value (.int .u8 ((esV c.toNat 2 : Nat) : Int))) _ from (v_conv rfl rfl Tryz.underlying3 Tryz.underlying5).trans (by rw [u8_in (by omega)]))) ?_
      refine s_val rfl rfl (v_assign rfl rfl) ?_
      refine wpList_nil ?_
      refine wp_ret ?_
      refine ret_tmp Tryz.results321 rfl ?_
      refine ⟨?_, cx⟩
      exact congrArg (fun z : Nat => Value.int .u8 (z : Int)) he2
theorem c321 (wb w0 : World) (b p : Nat) (s t z : List UInt8) (c : UInt8) (L : List (Nat × Obj)) (R : List Row) (cx0 : Cxr wb w0 ((b, .cells ([.string (bs s), .int .i64 p, .bool false] : List Value).toArray 261) :: L) R) (hs : s.length ≤ 1073741824) (hc : sgq c = 92 :: t) (hd : s.drop p = t ++ z) : Ret Tryz.prog 321 [.pointer (some ⟨b, 0, none⟩)] w0 (fun v w' => v = .int .u8 (c.toNat : Nat) ∧ Cxr wb w' ((b, .cells ([.string (bs s), .int .i64 (p + t.length : Nat), .bool false] : List Value).toArray 261) :: L) R) := by
  rcases sgq_esc hc with ⟨h1, rfl⟩ | ⟨h1, rfl⟩
  · have hL := drop_len s _ p hd (by simp)
    simp only [List.length_append, List.length_cons, List.length_nil] at hL
    have hx : s.getD p 0 = shq c := by
      have := getD_drop s p 0
      rw [hd] at this
      exact this
    exact c321s wb w0 b p s c (shq c) L R cx0 (by omega) hs hx rfl h1
  · exact c321u wb w0 b p s z c L R cx0 hs h1 hd
end Go.Proofs.YthiafbkolhnadaaGreatDoor
end
section
set_option linter.unusedVariables false
set_option linter.unusedSimpArgs false
namespace Go.Dk
open Go Go.RowKit Go.Lib
theorem decFrom_snoc : ∀ (a : List UInt8) (acc m d : Nat) (b : UInt8), Lib.decFrom acc a = some m → Lib.digitVal b = some d → Lib.decFrom acc (a ++ [b]) = some (m * 10 + d)
  | [], acc, m, d, b, h, hb => by
    simp only [Lib.decFrom, Option.some.injEq] at h
    subst h
    simp [Lib.decFrom, hb]
  | c :: a, acc, m, d, b, h, hb => by
    simp only [Lib.decFrom, List.cons_append] at h ⊢
    split at h
    · rename_i e he
      exact decFrom_snoc a _ m d b h hb
    · cases h
theorem dig_val (d : Nat) (h : d < 10) : Lib.digitVal (UInt8.ofNat (48 + d)) = some d := by
  unfold Lib.digitVal
  rw [u8t (by omega), if_pos (by omega)]
  congr 1
  omega
theorem decFrom_dec (n : Nat) : Lib.decFrom 0 (decDigits n) = some n := by
  induction n using Nat.strongRecOn with
  | _ n ih =>
    unfold decDigits
    split
    · simp only [Lib.decFrom, dig_val n (by omega)]
      congr 1
      omega
    · rw [decFrom_snoc _ 0 (n / 10) (n % 10) _ (ih _ (by omega)) (dig_val _ (by omega))]
      congr 1
      omega
theorem dec_ne (n : Nat) : decDigits n ≠ [] := by
  unfold decDigits
  split <;> simp
theorem atoi_itoa {n : Int} (h : 0 ≤ n) : Lib.atoi (itoa n) = some n := by
  obtain ⟨m, rfl⟩ := Int.eq_ofNat_of_zero_le h
  have e : itoa ((m : Nat) : Int) = decDigits m := itoa_nat m
  have hd := decFrom_dec m
  have hg := dec_dgc m
  rw [e]
  cases hl : decDigits m with
  | nil => exact absurd hl (dec_ne m)
  | cons b r =>
    rw [hl] at hd hg
    have hb := hg b (by simp)
    have h1 : (b == 45) = false := by
      rw [beq_eq_false_iff_ne]
      rintro rfl
      unfold dgc at hb
      revert hb; decide
    have h2 : (b == 43) = false := by
      rw [beq_eq_false_iff_ne]
      rintro rfl
      unfold dgc at hb
      revert hb; decide
    simp only [Lib.atoi, h1, h2, Lib.decNat, List.isEmpty_cons, Bool.false_eq_true, if_false, hd, Option.map_some]
theorem itoa_pos {n : Int} (h : 0 ≤ n) : 0 < (itoa n).length := by
  obtain ⟨m, rfl⟩ := Int.eq_ofNat_of_zero_le h
  have e : itoa ((m : Nat) : Int) = decDigits m := itoa_nat m
  rw [e]
  exact List.length_pos_iff.2 (dec_ne m)
noncomputable def rstS (l : List Stp) (i : Nat) : List UInt8 := (l.drop i).flatMap stpT
theorem rstS_end (l : List Stp) (i : Nat) (h : l.length ≤ i) : rstS l i = [] := by
  unfold rstS
  rw [List.drop_eq_nil_of_le h]
  rfl
theorem rstS_step (l : List Stp) (i : Nat) (x : Stp) (h : l[i]? = some x) : rstS l i = stpT x ++ rstS l (i + 1) := by
  obtain ⟨hi, rfl⟩ := List.getElem?_eq_some_iff.1 h
  unfold rstS
  rw [List.drop_eq_getElem_cons hi]
  simp only [List.flatMap_cons]
theorem rstS_head (l : List Stp) (i : Nat) : ∀ c t, rstS l i = c :: t → c = 46 ∨ c = 91 := fun c t h => flat_head h
theorem rstS_len (l : List Stp) (h : ∀ s ∈ l, GdS s) (i : Nat) : (rstS l i).length ≤ 6200 * l.length := by
  unfold rstS
  have := flat_len (l := l.drop i) fun s hs => h s (List.mem_of_mem_drop hs)
  rw [List.length_drop] at this
  omega
theorem rstS_ne (l : List Stp) (i : Nat) (h : i < l.length) : rstS l i ≠ [] := by
  intro e
  rw [rstS_step l i l[i] (List.getElem?_eq_getElem h)] at e
  obtain ⟨t, ht⟩ := step_head l[i]
  rw [ht] at e
  simp at e
theorem rstS_case (l : List Stp) (hl : ∀ s ∈ l, Stv s) (i : Nat) (h : i < l.length) : ∃ x, l[i]? = some x ∧
    ((∃ n, x = ⟨true, ⟨#[]⟩, n⟩ ∧ 0 ≤ n ∧ n ≤ 65536 ∧ rstS l i = 91 :: (itoa n ++ 93 :: rstS l (i + 1))) ∨
     (∃ k, x = ⟨false, k, 0⟩ ∧ k.size ≤ 1024 ∧ isNm k ∧ rstS l i = 46 :: (k.data.toList ++ rstS l (i + 1))) ∨
     (∃ k, x = ⟨false, k, 0⟩ ∧ k.size ≤ 1024 ∧ rstS l i = 46 :: 34 :: (qtd k.data.toList ++ 34 :: rstS l (i + 1)))) := by
  have hx := List.getElem?_eq_getElem h
  have hs := hl l[i] (List.getElem_mem h)
  have hr := rstS_step l i _ hx
  refine ⟨l[i], hx, ?_⟩
  generalize l[i] = y at hs hr hx ⊢
  obtain ⟨b, k, n⟩ := y
  cases b with
  | true =>
    obtain ⟨h1, h2, h3⟩ := hs.1 rfl
    simp only at h1 h2 h3
    subst h1
    refine .inl ⟨n, rfl, h2, h3, ?_⟩
    rw [hr]
    simp [stpT]
  | false =>
    obtain ⟨h1, h2, h3⟩ := hs.2 rfl
    simp only at h1 h2
    subst h1
    by_cases hn : isNm k
    · refine .inr (.inl ⟨k, rfl, h2, hn, ?_⟩)
      rw [hr]
      simp [stpT, hn]
    · refine .inr (.inr ⟨k, rfl, h2, ?_⟩)
      rw [hr]
      simp [stpT, hn]
theorem fol_name (k : ByteArray) (z : List UInt8) (hk : isNm k) (hz : ∀ c t, z = c :: t → c = 46 ∨ c = 91) : folN (bs (k.data.toList ++ z)) = k.size := by
  have hlen : k.data.toList.length = k.size := by simp
  refine folN_eq ⟨by rw [bs_size, List.length_append]; omega, fun j hj => ?_, fun hlt hok => ?_⟩
  · have e : byteAt (bs (k.data.toList ++ z)) (j : Int) = byteAt k (j : Int) := by
      rw [byteAt_bs]
      unfold byteAt
      rw [Int.toNat_natCast, List.getD, List.getD, List.getElem?_append_left (by omega)]
    unfold okN
    rw [e]
    exact hk.2 j hj
  · rw [bs_size, List.length_append] at hlt
    cases z with
    | nil => simp at hlt
    | cons c t =>
      have e : byteAt (bs (k.data.toList ++ c :: t)) (k.size : Int) = (c.toNat : Int) := by
        rw [byteAt_bs, Int.toNat_natCast, List.getD, List.getElem?_append_right (by omega)]
        rw [hlen, Nat.sub_self]
        rfl
      unfold okN lowc digc at hok
      rw [e] at hok
      rcases hz c t rfl with rfl | rfl <;> revert hok <;> simp
end Go.Dk
end
section
set_option linter.unusedVariables false
namespace Go.Proofs.YthiafbkolhnadaaGreatDoor
open Go Go.Dk Go.RowKit Go.Lib Go.Ev
def Cnt (w : World) : Prop := ∃ m : Int, w.cell? ⟨3, 0, none⟩ = some (.int .i64 m)
theorem Cnt.up {w w' : World} (h : Cnt w) (hb : Below w.heap.size w w') : Cnt w' := by
  obtain ⟨m, hm⟩ := h
  exact ⟨m, cell_up hb hm⟩
theorem c106 (n : Int) (w0 : World) (h0 : 0 ≤ n) (h1 : n ≤ 1048576) : Fc Tryz.prog 106 [.string (bs (itoa n))] w0 (fun v _ => v = .tuple #[.int .i64 n, .nilIface]) :=
  Calls.mono (Go.Proofs.Tryz.strconv_Atoi (bs (itoa n)) n (by rw [bs_size]; have := itoa_le h0 h1; omega) (atoi_itoa h0) w0) fun e w' ⟨he, t, hw⟩ => ⟨_, he, by rw [hw]; exact Go.Joins.below_bytesWorld _ _ _ _ (Nat.le_refl _), rfl⟩
theorem c55 (s p : List UInt8) (w0 : World) : Fc Tryz.prog 55 [.string (bs s), .string (bs p)] w0 (fun v _ => v = .tuple #[.string (bs (Lib.trimPrefix s p)), .bool (Lib.hasPrefix s p)]) :=
  Calls.mono (Go.Proofs.Tryz.strings_CutPrefix (bs s) (bs p) w0) fun e w' ⟨he, hw⟩ => ⟨_, he, by rw [hw]; exact Below.refl _ _, rfl⟩
theorem c105 (s p : List UInt8) (w0 : World) (hm : Cnt w0) (hs : s.length < 4294967281) : Fc Tryz.prog 105 [.string (bs s), .string (bs p)] w0 (fun v _ => v = .tuple #[.string (bs (Lib.cut s p).1), .string (bs (Lib.cut s p).2.1), .bool (Lib.cut s p).2.2]) := by
  obtain ⟨m, hm⟩ := hm
  exact Calls.mono (Go.Proofs.Tryz.strings_Cut (bs s) (bs p) m w0 (by rw [bs_size]; exact hs) hm) fun e w' ⟨he, n, hw⟩ => ⟨_, he, by rw [hw]; exact ⟨rfl, rfl, rfl, Nat.le_refl _, fun _ _ => rfl⟩, rfl⟩
theorem c54 (s p : List UInt8) (w0 : World) (hm : Cnt w0) (hs : s.length < 4294967281) (hp : 1 ≤ p.length) : Fc Tryz.prog 54 [.string (bs s), .string (bs p)] w0 (fun v w' => ∃ g k, v = .slice (some ⟨g, 0, none⟩) k k ∧ k = Lib.countB (bs s) (bs p) + 1 ∧ w'.ownsRow w0.heap.size 9 1 v k ((Lib.splitB (bs p) 0 (Lib.countB (bs s) (bs p)) (bs s)).map Value.string)) := by
  obtain ⟨m, hm⟩ := hm
  refine Calls.mono (Go.Proofs.Tryz.strings_Split (bs s) (bs p) m w0 (by rw [bs_size]; exact hs) hm (by rw [bs_size]; exact hp)) fun e w' ⟨he, hw⟩ => ⟨_, he, by rw [hw]; exact (Below.refl _ _).alloc (Nat.le_refl _) _, _, _, rfl, rfl, ?_⟩
  have hl := Lib.splitB_all (bs p) (by rw [bs_size]; exact hp) 0 (Lib.countB (bs s) (bs p)) (bs s) rfl
  have hc : Lib.countB (bs s) (bs p) ≤ (bs s).size := Lib.countB_le (bs p) (by rw [bs_size]; exact hp) _ (bs s) (Nat.le_refl _)
  rw [bs_size] at hc
  refine ⟨by rw [List.length_map, hl, Nat.mul_one], .inr ⟨_, _, ((Lib.splitB (bs p) 0 (Lib.countB (bs s) (bs p)) (bs s)).map Value.string).toArray, rfl, Nat.le_refl _, ?_, Nat.le_refl _, ?_, ?_, ?_⟩⟩
  · rw [hw]; simp [World.alloc, -World.alloc_eq]
  · unfold maxLen; omega
  · simp [hl]
  · rw [Nat.mul_one]; exact List.take_of_length_le (by rw [List.length_map, hl]; exact Nat.le_refl _)
end Go.Proofs.YthiafbkolhnadaaGreatDoor
end
section
set_option linter.unusedVariables false
namespace Go.Dk
open Go Go.RowKit Go.Lib
def nameT (fmt : Int) : List UInt8 := if fmt = 4 then [100, 101, 108, 105, 109] else [98, 114, 97, 99, 101]
noncomputable def hdrT (x : Idx) : List UInt8 := [105, 110, 100, 101, 120, 32] ++ nameT x.fmt ++ [32] ++ itoa x.size ++ [32] ++ itoa x.depth
def colT (c : ByteArray) : List UInt8 := [99, 111, 108, 117, 109, 110, 32] ++ cqt c
noncomputable def entT (e : Ent) : List UInt8 := itoa e.fr ++ [32] ++ itoa e.to ++ [32] ++ pathT e.path
noncomputable def textC (x : Idx) (i : Nat) : List UInt8 := hdrT x ++ [10] ++ (x.cols.take i).flatMap fun c => colT c ++ [10]
noncomputable def textE (x : Idx) (j : Nat) : List UInt8 := textC x x.cols.length ++ (x.ents.take j).flatMap fun e => entT e ++ [10]
noncomputable def textX (x : Idx) : List UInt8 := textE x x.ents.length
theorem flatMap_succ {α : Type} {l : List α} {i : Nat} {c : α} (f : α → List UInt8) (h : l[i]? = some c) : (l.take (i + 1)).flatMap f = (l.take i).flatMap f ++ f c := by
  rw [take_snoc h, List.flatMap_append]
  simp
theorem textC_zero (x : Idx) : textC x 0 = hdrT x ++ [10] := by simp [textC]
theorem textE_zero (x : Idx) : textE x 0 = textC x x.cols.length := by simp [textE]
theorem textC_succ {x : Idx} {i : Nat} {c : ByteArray} (h : x.cols[i]? = some c) : textC x (i + 1) = textC x i ++ [99, 111, 108, 117, 109, 110, 32] ++ cqt c ++ [10] := by
  unfold textC
  rw [flatMap_succ _ h]
  simp only [colT, List.append_assoc]
theorem textC_succ' {x : Idx} {i : Nat} {c : ByteArray} (h : x.cols[i]? = some c) : textC x (i + 1) = textC x i ++ ([99, 111, 108, 117, 109, 110, 32] ++ cqt c ++ [10]) := by
  rw [textC_succ h]
  simp only [List.append_assoc]
theorem textE_succ {x : Idx} {i : Nat} {e : Ent} (h : x.ents[i]? = some e) : textE x (i + 1) = textE x i ++ itoa e.fr ++ [32] ++ itoa e.to ++ [32] ++ pathT e.path ++ [10] := by
  unfold textE
  rw [flatMap_succ _ h]
  simp only [entT, List.append_assoc]
theorem textE_succ' {x : Idx} {i : Nat} {e : Ent} (h : x.ents[i]? = some e) : textE x (i + 1) = textE x i ++ (itoa e.fr ++ [32] ++ itoa e.to ++ [32] ++ pathT e.path ++ [10]) := by
  rw [textE_succ h]
  simp only [List.append_assoc]
/-! ### what a good index holds -/
theorem chk_hdr {x : Idx} (h : chkX x = 0) : (x.fmt = 1 ∨ x.fmt = 4) ∧ 0 ≤ x.size ∧ x.size ≤ 1048576 ∧ 1 ≤ x.depth ∧ x.depth ≤ 48 := by
  have h1 := chk_size h
  unfold hdrBad at h1
  omega
theorem chk_cols {x : Idx} (h : chkX x = 0) : ∀ c ∈ x.cols, validD c.data.toList = true ∧ c.size ≤ 1024 := by
  intro c hc
  have h1 : ¬ colBad c := by
    intro hb
    obtain ⟨i, hi⟩ := List.getElem?_of_mem hc
    have h2 := colsE_1 hi hb
    unfold chkX at h
    rw [if_neg (chk_size (by unfold chkX; exact h)), if_pos (by rw [h2]; decide), h2] at h
    cases h
  unfold colBad at h1
  refine ⟨?_, by omega⟩
  cases hv : validD c.data.toList with
  | true => rfl
  | false => exact absurd (.inl hv) h1
theorem chk_rng {x : Idx} (h : chkX x = 0) : ∀ e ∈ x.ents, 0 ≤ e.fr ∧ e.fr ≤ e.to ∧ e.to ≤ x.size := by
  intro e he
  obtain ⟨j, hj⟩ := List.getElem?_of_mem he
  have hlt := (List.getElem?_eq_some_iff.1 hj).1
  have hp := chk_past h
  have h1 := (entE_ok (hp j e hlt hj)).2.1
  have h2 := Past.last (i := j) (fun k y hk hy => hp k y (by omega) hy) (by omega)
  unfold rngBad at h1
  omega
theorem hdrT_len {x : Idx} (h : chkX x = 0) : (hdrT x).length ≤ 40 := by
  obtain ⟨_, h1, h2, h3, h4⟩ := chk_hdr h
  have a := itoa_le h1 h2
  have b := itoa_le (n := x.depth) (by omega) (by omega)
  have c : (nameT x.fmt).length ≤ 5 := by unfold nameT; split <;> simp
  unfold hdrT
  simp only [List.length_append, List.length_cons, List.length_nil]
  omega
theorem cqt_len {c : ByteArray} (h : c.size ≤ 1024) : (cqt c).length ≤ 6146 := by
  have := qtq_len c.data.toList
  have h2 : c.data.toList.length = c.size := by simp
  unfold cqt
  simp only [List.length_append, List.length_cons, List.length_nil]
  omega
theorem flat_le {α : Type} {f : α → List UInt8} {N : Nat} : ∀ {l : List α}, (∀ a ∈ l, (f a).length ≤ N) → (l.flatMap f).length ≤ N * l.length
  | [], _ => by simp
  | a :: l, h => by
    have h1 := h a (by simp)
    have h2 := flat_le (l := l) fun b hb => h b (List.mem_cons_of_mem _ hb)
    rw [List.flatMap_cons, List.length_append, List.length_cons, Nat.mul_succ]
    omega
theorem textC_len {x : Idx} (h : chkX x = 0) (i : Nat) (hi : i ≤ x.cols.length) : (textC x i).length ≤ 41 + 6154 * i := by
  have h1 := hdrT_len h
  have h2 := flat_le (l := x.cols.take i) (f := fun c => colT c ++ [10]) (N := 6154) fun c hc => by
    have h3 := cqt_len (chk_cols h c (List.mem_of_mem_take hc)).2
    simp only [colT, List.length_append, List.length_cons, List.length_nil]
    omega
  rw [List.length_take, Nat.min_eq_left hi] at h2
  unfold textC
  simp only [List.length_append, List.length_cons, List.length_nil]
  omega
theorem pathT_len' {l : List Stp} (h : GdP l) : (pathT l).length ≤ 297601 := by
  have h1 := pathT_len fun s hs => (h.2 s hs).gds
  have h2 := h.1
  omega
theorem textE_len {x : Idx} (h : chkX x = 0) (j : Nat) (hj : j ≤ x.ents.length) : (textE x j).length ≤ 41 + 6154 * x.cols.length + 297618 * j := by
  have h1 := textC_len h x.cols.length (Nat.le_refl _)
  have h2 := flat_le (l := x.ents.take j) (f := fun e => entT e ++ [10]) (N := 297618) fun e he => by
    have hm := List.mem_of_mem_take he
    have h3 := pathT_len' (chk_good h e hm).1
    obtain ⟨r1, r2, r3⟩ := chk_rng h e hm
    obtain ⟨_, s1, s2, _⟩ := chk_hdr h
    have h4 := itoa_le (n := e.fr) r1 (by omega)
    have h5 := itoa_le (n := e.to) (by omega) (by omega)
    simp only [entT, List.length_append, List.length_cons, List.length_nil]
    omega
  rw [List.length_take, Nat.min_eq_left hj] at h2
  unfold textE
  simp only [List.length_append]
  omega
end Go.Dk
end
section
set_option linter.unusedSimpArgs false
set_option linter.unusedVariables false
namespace Go.Proofs.YthiafbkolhnadaaGreatDoor
open Go Go.Dk Go.RowKit Go.Lib
attribute [local irreducible] Go.wpList Go.Code.wp Go.bodyPost Go.wpStill Go.wpQuiet
set_option maxHeartbeats 4000000 in
set_option maxRecDepth 10000 in
theorem c250 (wb w0 : World) (b p : Nat) (s k y : List UInt8) (L : List (Nat × Obj)) (R : List Row) (cx0 : Cxr wb w0 ((b, .cells ([.string (bs s), .int .i64 p, .bool false] : List Value).toArray 261) :: L) R) (hd : s.drop p = 34 :: (qtq k ++ 34 :: y)) (hs : s.length ≤ 1073741824) (hk : k.length ≤ 1073741824) : Ret Tryz.prog 250 [.pointer (some ⟨b, 0, none⟩)] w0 (fun v w' => v = .string (bs k) ∧ Cxr wb w' ((b, .cells ([.string (bs s), .int .i64 (p + (qtq k).length + 2 : Nat), .bool false] : List Value).toArray 261) :: L) R) := by
  have hL := drop_len s _ p hd (by simp)
  simp only [List.length_append, List.length_cons, List.length_nil] at hL
  refine ret_enter Tryz.func250 rfl Tryz.ntmps250 rfl ?_
  have cx := cx0
  refine wp_seq ?_
  refine wp_region_lit ?_
  refine s_val rfl rfl (v_assign rfl rfl) ?_
  refine wpList_nil ?_
  refine wp_seq ?_
  refine wp_region_lit ?_
  refine s_val rfl rfl (v_move rfl rfl) ?_
  refine s_call (c320 wb _ b p s [34] L R cx (by simp only [List.length_cons, List.length_nil]; omega) hs (take_drop_at s [34] _ p 1 hd rfl)) Tryz.func320 rfl rfl rfl rfl rfl rfl ?_; rintro v6 w ⟨hv6, cx⟩
  refine wpList_nil ?_
  refine wp_seq ?_
  refine wp_region_lit ?_
  refine s_val rfl rfl (v_assign rfl rfl) ?_
  refine wpList_nil ?_
  refine wp_seq ?_
  refine wp_block ?_
  refine w_loop (fun g f w1 => ∃ (i q : Nat) (v : Value), g + i = k.length ∧ q = p + 1 + (qtq (k.take i)).length ∧ f 0 = .pointer (some ⟨b, 0, none⟩) ∧ f 3 = v ∧ Cxr wb w1 ((b, .cells ([.string (bs s), .int .i64 (q : Nat), .bool false] : List Value).toArray 261) :: L) (⟨5, 1, v, i, (k.take i).map bv⟩ :: R)) (k.length) ?_ ?_
  · skip
    exact ⟨0, p + 1, _, by omega, rfl, rfl, rfl, cx.nilRow 5 1⟩
  intro gk3 f w hJ
  obtain ⟨i, q, v, hgi, hp, hs0, hs3, cx⟩ := hJ
  have hql := qtq_len k
  have hsp : s.drop q = rstC k y i := by
    have h1 := qtq_split k y i
    rw [hp, show p + 1 + (qtq (k.take i)).length = p + (1 + (qtq (k.take i)).length) by omega, ← List.drop_drop, hd, h1]
    exact (drop_at _ _ _ 0 (by simp only [List.length_cons]; omega)).trans rfl
  have hR := rstC_pos k y i
  have hsL := drop_len s _ q hsp hR
  obtain ⟨x, hx⟩ : ∃ x, s.getD (Int.toNat (q : Int)) 0 = x := ⟨_, rfl⟩
  have hx' := hx
  rw [Int.toNat_natCast] at hx'
  have hx2 := getD_drop s q 0
  rw [hsp, Nat.add_zero, hx'] at hx2
  have hcase := rstC_case k y i (by omega)
  rw [← hx2] at hcase
  refine wp_seq ?_
  refine wp_seq ?_
  refine wp_region_lit ?_
  refine s_val rfl rfl (v_move rfl hs0) ?_
  refine s_val rfl rfl (v_nilCk rfl rfl) ?_
  refine s_val rfl rfl (v_fa fa261_2 rfl rfl) ?_
  refine s_val rfl rfl (v_load1 rfl rfl Tryz.underlying4 rfl ((cx.row 0 rfl).cell 2 rfl)) ?_
  refine s_val rfl rfl (v_not rfl rfl) ?_
  refine wpList_nil ?_
  refine wp_cond_true (show (St _ _).eval _ = _ by rw [eval_St]; rfl) ?_
  refine wp_skip ?_
  refine wp_block ?_
  refine wp_seq ?_
  refine wp_seq ?_
  refine w_quiet cx mixed (by kernel_rfl) ?_
  refine q_val rfl rfl (fun w cx hwQ => v_move rfl hs0) ?_
  refine q_val rfl rfl (fun w cx hwQ => v_nilCk rfl rfl) ?_
  refine q_val rfl rfl (fun w cx hwQ => v_fa fa261_1 rfl rfl) ?_
  refine q_val rfl rfl (fun w cx hwQ => v_load1 rfl rfl Tryz.underlying3 rfl ((cx.row 0 rfl).cell 1 rfl)) ?_
  refine q_val rfl rfl (fun w cx hwQ => v_move rfl hs0) ?_
  refine q_val rfl rfl (fun w cx hwQ => v_nilCk rfl rfl) ?_
  refine q_val rfl rfl (fun w cx hwQ => v_fa fa261_0 rfl rfl) ?_
  refine q_val rfl rfl (fun w cx hwQ => v_load1 rfl rfl Tryz.underlying9 rfl ((cx.row 0 rfl).cell 0 rfl)) ?_
  refine q_val rfl rfl (fun w cx hwQ => v_lenB rfl rfl Tryz.underlying9) ?_
  refine q_val rfl rfl (fun w cx hwQ => v_cmp rfl rfl rfl rfl) ?_
  refine q_nil ?_; rintro w ⟨cx, hwQ4⟩
  refine c_split rfl (fun hc21 => ?_) (fun hc21 => ?_)
  · skip
    try simp only [Bool.and_eq_true, Bool.or_eq_true, Bool.and_eq_false_iff, Bool.or_eq_false_iff, Bool.not_eq_true', Bool.not_eq_false', decide_eq_true_eq, decide_eq_false_iff_not, beq_iff_eq, beq_eq_false_iff_ne, bne_iff_ne, bne_eq_false_iff_eq, ne_eq, Classical.not_not] at hc21
    exfalso
    omega
  · skip
    try simp only [Bool.and_eq_true, Bool.or_eq_true, Bool.and_eq_false_iff, Bool.or_eq_false_iff, Bool.not_eq_true', Bool.not_eq_false', decide_eq_true_eq, decide_eq_false_iff_not, beq_iff_eq, beq_eq_false_iff_ne, bne_iff_ne, bne_eq_false_iff_eq, ne_eq, Classical.not_not] at hc21
    refine wp_skip ?_
    refine wp_seq ?_
    refine w_quiet cx mixed (by kernel_rfl) ?_
    refine q_val rfl rfl (fun w cx hwQ => v_move rfl hs0) ?_
    refine q_val rfl rfl (fun w cx hwQ => v_nilCk rfl rfl) ?_
    refine q_val rfl rfl (fun w cx hwQ => v_fa fa261_0 rfl rfl) ?_
    refine q_val rfl rfl (fun w cx hwQ => v_load1 rfl rfl Tryz.underlying9 rfl ((cx.row 0 rfl).cell 0 rfl)) ?_
    refine q_val rfl rfl (fun w cx hwQ => v_move rfl hs0) ?_
    refine q_val rfl rfl (fun w cx hwQ => v_nilCk rfl rfl) ?_
    refine q_val rfl rfl (fun w cx hwQ => v_fa fa261_1 rfl rfl) ?_
    refine q_val rfl rfl (fun w cx hwQ => v_load1 rfl rfl Tryz.underlying3 rfl ((cx.row 0 rfl).cell 1 rfl)) ?_
    refine q_val rfl rfl (fun w cx hwQ => (show (execOp _ _).run _ _ = .ok (.value (.int .u8 ((x.toNat : Nat) : Int))) _ from by rw [← hx]; exact v_idxB (m := (q : Int)) rfl rfl rfl Tryz.underlying9 (by omega) (by omega))) ?_
    refine q_val rfl rfl (fun w cx hwQ => v_assign rfl rfl) ?_
    refine q_nil ?_; rintro w ⟨cx, hwQ7⟩
    refine wp_seq ?_
    refine wp_region_lit ?_
    refine s_val rfl rfl (v_move rfl hs0) ?_
    refine s_val rfl rfl (v_nilCk rfl rfl) ?_
    refine s_val rfl rfl (v_fa fa261_1 rfl rfl) ?_
    refine s_val rfl rfl (v_load1 rfl rfl Tryz.underlying3 rfl ((cx.row 0 rfl).cell 1 rfl)) ?_
    refine s_val rfl rfl (v_add rfl rfl rfl (by omega) (by omega)) ?_
    refine s_val rfl rfl (v_nilCk rfl rfl) ?_
    refine s_val rfl rfl (v_fa fa261_1 rfl rfl) ?_
    refine s_store1 (v := .int .i64 ((q + 1 : Nat) : Int)) cx 0 rfl rfl rfl rfl rfl rfl rfl rfl sz3 ?_; intro w cx hwS8
    refine wpList_nil ?_
    refine wp_seq ?_
    refine wp_region_lit ?_
    refine s_val rfl rfl (v_move rfl rfl) ?_
    refine wpList_nil ?_
    refine wp_block ?_
    refine wp_seq ?_
    refine wp_region_lit ?_
    refine s_val rfl rfl (v_cmp rfl rfl rfl rfl) ?_
    refine s_val rfl rfl (v_assign rfl rfl) ?_
    refine wpList_nil ?_
    refine c_split rfl (fun hc46 => ?_) (fun hc46 => ?_)
    · skip
      try simp only [Bool.and_eq_true, Bool.or_eq_true, Bool.and_eq_false_iff, Bool.or_eq_false_iff, Bool.not_eq_true', Bool.not_eq_false', decide_eq_true_eq, decide_eq_false_iff_not, beq_iff_eq, beq_eq_false_iff_ne, bne_iff_ne, bne_eq_false_iff_eq, ne_eq, Classical.not_not] at hc46
      have hi : i = k.length := by
        rcases hcase with ⟨hi, hb4⟩ | ⟨c, hki, hsg, hbc, hb3, hb9⟩ | ⟨c, t, hki, hsg, htl, hb9⟩
        · exact hi
        · exfalso
          rw [hbc] at hc46
          omega
        · exfalso
          omega
      refine wp_seq ?_
      refine wp_region_lit ?_
      refine s_val rfl rfl (v_move rfl hs3) ?_
      refine s_val rfl rfl (v_rowStr cx rfl Tryz.underlying79 Tryz.underlying5 Tryz.underlying9 rfl) ?_
      refine s_val rfl rfl (v_assign rfl rfl) ?_
      refine wpList_nil ?_
      refine wp_ret ?_
      refine ret_tmp Tryz.results250 rfl ?_
      refine ⟨?_, ?_⟩
      · exact congrArg (fun l => Value.string (bs l)) (show k.take i = k by rw [hi]; exact List.take_length)
      · have e : k.take i = k := by rw [hi]; exact List.take_length
        rw [e] at hp
        have e2 : q + 1 = p + (qtq k).length + 2 := by omega
        have cx2 := cx.dropR 1
        rw [← e2]
        exact cx2
    · skip
      try simp only [Bool.and_eq_true, Bool.or_eq_true, Bool.and_eq_false_iff, Bool.or_eq_false_iff, Bool.not_eq_true', Bool.not_eq_false', decide_eq_true_eq, decide_eq_false_iff_not, beq_iff_eq, beq_eq_false_iff_ne, bne_iff_ne, bne_eq_false_iff_eq, ne_eq, Classical.not_not] at hc46
      refine wp_seq ?_
      refine wp_region_lit ?_
      refine s_val rfl rfl (v_cmp rfl rfl rfl rfl) ?_
      refine s_val rfl rfl (v_assign rfl rfl) ?_
      refine wpList_nil ?_
      refine c_split rfl (fun hc50 => ?_) (fun hc50 => ?_)
      · skip
        try simp only [Bool.and_eq_true, Bool.or_eq_true, Bool.and_eq_false_iff, Bool.or_eq_false_iff, Bool.not_eq_true', Bool.not_eq_false', decide_eq_true_eq, decide_eq_false_iff_not, beq_iff_eq, beq_eq_false_iff_ne, bne_iff_ne, bne_eq_false_iff_eq, ne_eq, Classical.not_not] at hc50
        obtain ⟨c, t, hki, hsg, htl⟩ : ∃ c t, k[i]? = some c ∧ sgq c = 92 :: t ∧ 0 < t.length := by
          rcases hcase with ⟨hi, hb4⟩ | ⟨c, hki, hsg, hbc, hb3, hb9⟩ | ⟨c, t, hki, hsg, htl, hb9⟩
          · exfalso
            omega
          · exfalso
            rw [hbc] at hc50
            omega
          · exact ⟨c, t, hki, hsg, htl⟩
        have hts := sgq_len c
        rw [hsg] at hts
        simp only [List.length_cons] at hts
        have hik := (List.getElem?_eq_some_iff.1 hki).1
        refine wp_region_lit ?_
        refine s_val rfl rfl (v_move rfl hs3) ?_
        refine s_val rfl rfl (v_move rfl hs0) ?_
        refine s_call (c321 wb _ b (q + 1) s t (rstC k y (i + 1)) c L _ cx hs hsg (by rw [← List.drop_drop, hsp, rstC_step k y i c hki, hsg]; rfl)) Tryz.func321 rfl rfl rfl rfl rfl rfl ?_; rintro v54 w ⟨hv54, cx⟩; subst hv54
        refine s_bsl1 cx Tryz.underlying79 sz5 z5 rfl rfl rfl rfl rfl rfl rfl rfl ?_; intro b55 w cx hb55 hw55
        refine s_append cx ei5 Tryz.underlying79 rfl rfl rfl rfl rfl (cx.row 0 rfl) rfl rfl (by omega) ?_; intro v56 w cx hgr56
        replace cx := cx.drop 1
        refine s_val rfl rfl (v_assign rfl rfl) ?_
        refine wpList_nil ?_
        have hik := (List.getElem?_eq_some_iff.1 hki).1
        have hq2 := congrArg List.length (qtqt_succ k i c hki)
        simp only [List.length_append, hsg, List.length_cons, List.length_nil] at hq2
        refine ⟨gk3 - 1, _, by omega, rfl, i + 1, q + 1 + t.length, _, by omega, by omega, hs0, rfl, cx.row_eq (by omega) ?_⟩
        exact take_bv hki
      · skip
        try simp only [Bool.and_eq_true, Bool.or_eq_true, Bool.and_eq_false_iff, Bool.or_eq_false_iff, Bool.not_eq_true', Bool.not_eq_false', decide_eq_true_eq, decide_eq_false_iff_not, beq_iff_eq, beq_eq_false_iff_ne, bne_iff_ne, bne_eq_false_iff_eq, ne_eq, Classical.not_not] at hc50
        obtain ⟨c, hki, hsg, hbc⟩ : ∃ c, k[i]? = some c ∧ sgq c = [c] ∧ x = c := by
          rcases hcase with ⟨hi, hb4⟩ | ⟨c, hki, hsg, hbc, hb3, hb9⟩ | ⟨c, t, hki, hsg, htl, hb9⟩
          · exfalso
            omega
          · exact ⟨c, hki, hsg, hbc⟩
          · exfalso
            omega
        have hik := (List.getElem?_eq_some_iff.1 hki).1
        refine wp_region_lit ?_
        refine s_val rfl rfl (v_move rfl hs3) ?_
        refine s_val rfl rfl (v_move rfl rfl) ?_
        refine s_bsl1 cx Tryz.underlying79 sz5 z5 rfl rfl rfl rfl rfl rfl rfl rfl ?_; intro b44 w cx hb44 hw44
        refine s_append cx ei5 Tryz.underlying79 rfl rfl rfl rfl rfl (cx.row 0 rfl) rfl rfl (by omega) ?_; intro v45 w cx hgr45
        replace cx := cx.drop 1
        refine s_val rfl rfl (v_assign rfl rfl) ?_
        refine wpList_nil ?_
        have hik := (List.getElem?_eq_some_iff.1 hki).1
        have hq2 := congrArg List.length (qtqt_succ k i c hki)
        simp only [List.length_append, hsg, List.length_cons, List.length_nil] at hq2
        refine ⟨gk3 - 1, _, by omega, rfl, i + 1, q + 1, _, by omega, by omega, hs0, rfl, cx.row_eq (by omega) ?_⟩
        subst hbc
        exact take_bv hki
set_option maxHeartbeats 4000000 in
set_option maxRecDepth 10000 in
theorem c173 (wb w0 : World) (b p : Nat) (s k y : List UInt8) (L : List (Nat × Obj)) (R : List Row) (cx0 : Cxr wb w0 ((b, .cells ([.string (bs s), .int .i64 p, .bool false] : List Value).toArray 261) :: L) R) (hd : s.drop p = 34 :: (qtq k ++ 34 :: y)) (hs : s.length ≤ 1073741824) (hk : k.length ≤ 1073741824) : Ret Tryz.prog 173 [.pointer (some ⟨b, 0, none⟩), .int .i64 1] w0 (fun v w' => v = .agg (leaf (bs k)).toArray ∧ Cxr wb w' ((b, .cells ([.string (bs s), .int .i64 (p + (qtq k).length + 2 : Nat), .bool false] : List Value).toArray 261) :: L) R) := by
  have hL := drop_len s _ p hd (by simp)
  simp only [List.length_append, List.length_cons, List.length_nil] at hL
  have hx : ((s.getD p 0).toNat : Int) = 34 := by
    have := getD_drop s p 0
    rw [hd, Nat.add_zero] at this
    rw [this]; rfl
  refine ret_enter Tryz.func173 rfl Tryz.ntmps173 rfl ?_
  have cx := cx0
  refine wp_seq ?_
  refine wp_region_lit ?_
  refine s_alloc cx z83 rfl rfl rfl ?_; intro b4 w cx hb4 hw4
  refine wpList_nil ?_
  refine wp_seq ?_
  refine wp_seq ?_
  refine wp_region_lit ?_
  refine s_val rfl rfl (v_move rfl rfl) ?_
  refine s_val rfl rfl (v_cmp rfl rfl rfl rfl) ?_
  refine wpList_nil ?_
  refine wp_cond_false (show (St _ _).eval _ = _ by rw [eval_St]; rfl) ?_
  refine wp_skip ?_
  refine wp_seq ?_
  refine wp_seq ?_
  refine wp_region_lit ?_
  refine s_val rfl rfl (v_move rfl rfl) ?_
  refine s_fn cx (c248 s p b _ (cx.row 1 rfl) (by omega)) Tryz.func248 rfl rfl rfl rfl rfl rfl ?_; intro q16 w cx hw16 hp16
  subst hp16
  refine wpList_nil ?_
  refine wp_block ?_
  refine wp_seq ?_
  refine wp_region_lit ?_
  refine s_val rfl rfl (v_cmp rfl rfl rfl rfl) ?_
  refine s_val rfl rfl (v_assign rfl rfl) ?_
  refine wpList_nil ?_
  refine c_split rfl (fun hc17 => ?_) (fun hc17 => ?_)
  · skip
    try simp only [Bool.and_eq_true, Bool.or_eq_true, Bool.and_eq_false_iff, Bool.or_eq_false_iff, Bool.not_eq_true', Bool.not_eq_false', decide_eq_true_eq, decide_eq_false_iff_not, beq_iff_eq, beq_eq_false_iff_ne, bne_iff_ne, bne_eq_false_iff_eq, ne_eq, Classical.not_not] at hc17
    exfalso
    omega
  · skip
    try simp only [Bool.and_eq_true, Bool.or_eq_true, Bool.and_eq_false_iff, Bool.or_eq_false_iff, Bool.not_eq_true', Bool.not_eq_false', decide_eq_true_eq, decide_eq_false_iff_not, beq_iff_eq, beq_eq_false_iff_ne, bne_iff_ne, bne_eq_false_iff_eq, ne_eq, Classical.not_not] at hc17
    refine wp_seq ?_
    refine wp_region_lit ?_
    refine s_val rfl rfl (v_cmp rfl rfl rfl rfl) ?_
    refine s_val rfl rfl (v_assign rfl rfl) ?_
    refine wpList_nil ?_
    refine c_split rfl (fun hc22 => ?_) (fun hc22 => ?_)
    · skip
      try simp only [Bool.and_eq_true, Bool.or_eq_true, Bool.and_eq_false_iff, Bool.or_eq_false_iff, Bool.not_eq_true', Bool.not_eq_false', decide_eq_true_eq, decide_eq_false_iff_not, beq_iff_eq, beq_eq_false_iff_ne, bne_iff_ne, bne_eq_false_iff_eq, ne_eq, Classical.not_not] at hc22
      exfalso
      omega
    · skip
      try simp only [Bool.and_eq_true, Bool.or_eq_true, Bool.and_eq_false_iff, Bool.or_eq_false_iff, Bool.not_eq_true', Bool.not_eq_false', decide_eq_true_eq, decide_eq_false_iff_not, beq_iff_eq, beq_eq_false_iff_ne, bne_iff_ne, bne_eq_false_iff_eq, ne_eq, Classical.not_not] at hc22
      refine wp_seq ?_
      refine wp_region_lit ?_
      refine s_val rfl rfl (v_cmp rfl rfl rfl rfl) ?_
      refine s_val rfl rfl (v_assign rfl rfl) ?_
      refine wpList_nil ?_
      refine c_split rfl (fun hc77 => ?_) (fun hc77 => ?_)
      · skip
        try simp only [Bool.and_eq_true, Bool.or_eq_true, Bool.and_eq_false_iff, Bool.or_eq_false_iff, Bool.not_eq_true', Bool.not_eq_false', decide_eq_true_eq, decide_eq_false_iff_not, beq_iff_eq, beq_eq_false_iff_ne, bne_iff_ne, bne_eq_false_iff_eq, ne_eq, Classical.not_not] at hc77
        exfalso
        omega
      · skip
        try simp only [Bool.and_eq_true, Bool.or_eq_true, Bool.and_eq_false_iff, Bool.or_eq_false_iff, Bool.not_eq_true', Bool.not_eq_false', decide_eq_true_eq, decide_eq_false_iff_not, beq_iff_eq, beq_eq_false_iff_ne, bne_iff_ne, bne_eq_false_iff_eq, ne_eq, Classical.not_not] at hc77
        refine wp_seq ?_
        refine wp_region_lit ?_
        refine s_val rfl rfl (v_cmp rfl rfl rfl rfl) ?_
        refine s_val rfl rfl (v_assign rfl rfl) ?_
        refine wpList_nil ?_
        refine c_split rfl (fun hc82 => ?_) (fun hc82 => ?_)
        · skip
          try simp only [Bool.and_eq_true, Bool.or_eq_true, Bool.and_eq_false_iff, Bool.or_eq_false_iff, Bool.not_eq_true', Bool.not_eq_false', decide_eq_true_eq, decide_eq_false_iff_not, beq_iff_eq, beq_eq_false_iff_ne, bne_iff_ne, bne_eq_false_iff_eq, ne_eq, Classical.not_not] at hc82
          refine wp_seq ?_
          refine wp_region_lit ?_
          refine s_val rfl rfl (v_move rfl rfl) ?_
          replace cx := cx.swapL
          refine s_call (c250 wb _ b p s k y _ R cx hd hs hk) Tryz.func250 rfl rfl rfl rfl rfl rfl ?_; rintro v85 w ⟨hv85, cx⟩; subst hv85
          replace cx := cx.swapL
          refine s_val rfl rfl (v_build (qs := [(0, .int .i64 4), (4, .string (bs k))]) (bd83 (bs k)) rfl rfl) ?_
          refine s_storeAll cx 0 rfl rfl rfl rfl rfl rfl sz83 rfl rfl ?_; intro w cx hwS17
          refine wpList_nil ?_
          refine wp_ret ?_
          refine ret_cell Tryz.results173 rfl (cx.at 0 rfl) Tryz.underlying83 rfl sz83 ?_
          exact ⟨rfl, cx.drop 1⟩
        · skip
          try simp only [Bool.and_eq_true, Bool.or_eq_true, Bool.and_eq_false_iff, Bool.or_eq_false_iff, Bool.not_eq_true', Bool.not_eq_false', decide_eq_true_eq, decide_eq_false_iff_not, beq_iff_eq, beq_eq_false_iff_ne, bne_iff_ne, bne_eq_false_iff_eq, ne_eq, Classical.not_not] at hc82
          exfalso
          omega
theorem bd261 (s : ByteArray) (w : World) : (Instr.build 261 ([(0, .string s)] : List (Nat × Value)).toArray).run Tryz.prog w = .ok (.agg #[.string s, .int .i64 0, .bool false]) w := by
  go_simp
  try rfl
set_option maxHeartbeats 4000000 in
set_option maxRecDepth 10000 in
theorem c107 (c : ByteArray) (w0 : World) (hv : validD c.data.toList = true) (hsz : c.size ≤ 1024) : Fc Tryz.prog 107 [.string (bs (cqt c))] w0 (fun v _ => v = .tuple #[.agg (leaf c).toArray, .int .i64 0]) := by
  have hl := cqt_len hsz
  have hcl : c.data.toList.length = c.size := by simp
  have hcv : validD (bs (cqt c)).data.toList = true := valid_cqt c hv
  refine ret_enter Tryz.func107 rfl Tryz.ntmps107 rfl ?_
  have cx := Ctx.start w0
  refine wp_seq ?_
  refine wp_region_lit ?_
  refine s_alloc cx z83 rfl rfl rfl ?_; intro b2 w cx hb2 hw2
  refine s_val rfl rfl (v_assign rfl rfl) ?_
  refine wpList_nil ?_
  refine wp_seq ?_
  refine wp_seq ?_
  refine wp_region_lit ?_
  refine s_val rfl rfl (v_move rfl rfl) ?_
  refine s_val rfl rfl (v_lenB rfl rfl Tryz.underlying9) ?_
  refine s_val rfl rfl (v_cmp rfl rfl rfl rfl) ?_
  refine wpList_nil ?_
  refine c_split rfl (fun hc8 => ?_) (fun hc8 => ?_)
  · skip
    try simp only [Bool.and_eq_true, Bool.or_eq_true, Bool.and_eq_false_iff, Bool.or_eq_false_iff, Bool.not_eq_true', Bool.not_eq_false', decide_eq_true_eq, decide_eq_false_iff_not, beq_iff_eq, beq_eq_false_iff_ne, bne_iff_ne, bne_eq_false_iff_eq, ne_eq, Classical.not_not] at hc8
    exfalso
    omega
  · skip
    try simp only [Bool.and_eq_true, Bool.or_eq_true, Bool.and_eq_false_iff, Bool.or_eq_false_iff, Bool.not_eq_true', Bool.not_eq_false', decide_eq_true_eq, decide_eq_false_iff_not, beq_iff_eq, beq_eq_false_iff_ne, bne_iff_ne, bne_eq_false_iff_eq, ne_eq, Classical.not_not] at hc8
    refine wp_skip ?_
    refine wp_seq ?_
    refine wp_seq ?_
    refine wp_region_lit ?_
    refine s_val rfl rfl (v_move rfl rfl) ?_
    refine s_fnB cx (c92 (bs (cqt c)) _ (by rw [bs_size]; omega)) Tryz.func92 rfl rfl rfl rfl rfl rfl ?_; intro q11 w cx hw11 hp11
    obtain rfl : q11 = true := hp11.trans hcv
    refine s_val rfl rfl (v_not rfl rfl) ?_
    refine wpList_nil ?_
    refine wp_cond_false (show (St _ _).eval _ = _ by rw [eval_St]; rfl) ?_
    refine wp_skip ?_
    refine wp_seq ?_
    refine wp_region_lit ?_
    refine s_val rfl rfl (v_move rfl rfl) ?_
    refine s_val rfl rfl (v_build (qs := [(0, .string (bs (cqt c)))]) (bd261 (bs (cqt c))) rfl rfl) ?_
    refine s_box cx rfl rfl rfl rfl rfl ?_; intro b16 w cx hb16 hw16
    refine s_val rfl rfl (v_assign rfl rfl) ?_
    refine wpList_nil ?_
    refine wp_seq ?_
    refine wp_region_lit ?_
    refine s_val rfl rfl (v_move rfl rfl) ?_
    refine s_call (c173 w0 _ b16 0 (cqt c) c.data.toList [] _ [] cx (by unfold cqt; rfl) (by omega) (by omega)) Tryz.func173 rfl rfl rfl rfl rfl rfl ?_; rintro v18 w ⟨hv18, cx⟩; subst hv18
    refine s_alloc cx z83 rfl rfl rfl ?_; intro b5 w cx hb5 hw5
    refine s_storeAll cx 0 rfl rfl rfl rfl rfl rfl sz83 rfl rfl ?_; intro w cx hwS6
    refine wpList_nil ?_
    refine wp_seq ?_
    refine wp_seq ?_
    refine wp_region_lit ?_
    refine s_val rfl rfl (v_move rfl rfl) ?_
    refine s_val rfl rfl (v_nilCk rfl rfl) ?_
    refine s_val rfl rfl (v_fa fa261_2 rfl rfl) ?_
    refine s_val rfl rfl (v_load1 rfl rfl Tryz.underlying4 rfl ((cx.row 1 rfl).cell 2 rfl)) ?_
    refine s_val rfl rfl (v_move rfl rfl) ?_
    refine s_gval rfl rfl rfl (by first | exact w_ff rfl | exact w_gf rfl) (fun hc => v_move rfl (by first | exact gve hc rfl | exact gve (and_l hc) rfl | exact gve (and_l (and_l hc)) rfl | rfl)) ?_
    refine s_gval rfl rfl rfl (by first | exact w_ff rfl | exact w_gf rfl) (fun hc => v_nilCk rfl (by first | exact gve hc rfl | exact gve (and_l hc) rfl | exact gve (and_l (and_l hc)) rfl | rfl)) ?_
    refine s_gval rfl rfl rfl (by first | exact w_ff rfl | exact w_gf rfl) (fun hc => v_fa fa261_1 rfl (by first | exact gve hc rfl | exact gve (and_l hc) rfl | exact gve (and_l (and_l hc)) rfl | rfl)) ?_
    refine s_gval rfl rfl rfl (by first | exact w_ff rfl | exact w_gf rfl) (fun hc => v_load1 rfl (by first | exact gve hc rfl | exact gve (and_l hc) rfl | exact gve (and_l (and_l hc)) rfl | rfl) Tryz.underlying3 rfl ((cx.row 1 rfl).cell 1 rfl)) ?_
    refine s_gval rfl rfl rfl (by first | exact w_ff rfl | exact w_gf rfl) (fun hc => v_move rfl (by first | exact gve hc rfl | exact gve (and_l hc) rfl | exact gve (and_l (and_l hc)) rfl | rfl)) ?_
    refine s_gval rfl rfl rfl (by first | exact w_ff rfl | exact w_gf rfl) (fun hc => v_lenB rfl (by first | exact gve hc rfl | exact gve (and_l hc) rfl | exact gve (and_l (and_l hc)) rfl | rfl) Tryz.underlying9) ?_
    refine s_gval rfl rfl rfl (by first | exact w_ff rfl | exact w_gf rfl) (fun hc => v_cmp rfl (by first | exact gve hc rfl | exact gve (and_l hc) rfl | exact gve (and_l (and_l hc)) rfl | rfl) (by first | exact gve hc rfl | exact gve (and_l hc) rfl | exact gve (and_l (and_l hc)) rfl | rfl) rfl) ?_
    refine s_val rfl rfl (v_or rfl rfl rfl rfl) ?_
    refine s_val rfl rfl (v_move rfl rfl) ?_
    refine s_gval rfl rfl rfl (by first | exact w_ff rfl | exact w_gf rfl) (fun hc => v_load rfl (by first | exact gve hc rfl | exact gve (and_l hc) rfl | exact gve (and_l (and_l hc)) rfl | rfl) Tryz.underlying83 rfl sz83 (cx.row 0 rfl) rfl) ?_
    refine s_gfnI cx rfl rfl rfl (by first | exact w_ff rfl | exact w_gf rfl) (fun hc => c97 c _ hv hsz) Tryz.func97 rfl rfl rfl (fun hc => (cons_eq (by first | exact gve hc rfl | exact gve (and_l hc) rfl | exact gve (and_l (and_l hc)) rfl | rfl) rfl)) ?_; intro q34 w cx hw34 hp34
    refine s_gval rfl rfl rfl (by first | exact w_ff rfl | exact w_gf rfl) (fun hc => v_cmp rfl (by first | exact gve hc rfl | exact gve (and_l hc) rfl | exact gve (and_l (and_l hc)) rfl | rfl) rfl rfl) ?_
    refine s_val rfl rfl (v_or rfl rfl rfl rfl) ?_
    refine s_val rfl rfl (v_move rfl rfl) ?_
    refine s_gval rfl rfl rfl (by first | exact w_ff rfl | exact w_gf rfl) (fun hc => v_load rfl (by first | exact gve hc rfl | exact gve (and_l hc) rfl | exact gve (and_l (and_l hc)) rfl | rfl) Tryz.underlying83 rfl sz83 (cx.row 0 rfl) rfl) ?_
    refine s_gfn cx rfl rfl rfl (by first | exact w_ff rfl | exact w_gf rfl) (fun hc => c98 c _ hsz) Tryz.func98 rfl rfl rfl (fun hc => (cons_eq (by first | exact gve hc rfl | exact gve (and_l hc) rfl | exact gve (and_l (and_l hc)) rfl | rfl) rfl)) ?_; intro q39 w cx hw39 hp39
    refine s_gval rfl rfl rfl (by first | exact w_ff rfl | exact w_gf rfl) (fun hc => v_move rfl (by first | exact gve hc rfl | exact gve (and_l hc) rfl | exact gve (and_l (and_l hc)) rfl | rfl)) ?_
    refine s_gval rfl rfl rfl (by first | exact w_ff rfl | exact w_gf rfl) (fun hc => v_neB (s := cqt c) (u := cqt c) rfl ((gve hc rfl).trans (hp39 hc)) (gve hc rfl)) ?_
    refine s_val rfl rfl (v_or rfl rfl rfl rfl) ?_
    refine wpList_nil ?_
    refine c_split rfl (fun hc42 => ?_) (fun hc42 => ?_)
    · skip
      try simp only [Bool.and_eq_true, Bool.or_eq_true, Bool.and_eq_false_iff, Bool.or_eq_false_iff, Bool.not_eq_true', Bool.not_eq_false', decide_eq_true_eq, decide_eq_false_iff_not, beq_iff_eq, beq_eq_false_iff_ne, bne_iff_ne, bne_eq_false_iff_eq, ne_eq, Classical.not_not] at hc42
      exfalso
      have hpos : ((0 + (qtq c.data.toList).length + 2 : Nat) : Int) = ((cqt c).length : Nat) := by
        unfold cqt
        simp only [List.length_append, List.length_cons, List.length_nil]
        omega
      have h34 := hp34 (by rw [hpos]; simp)
      rcases hc42 with ((h | h) | h) | h
      · cases h
      · exact h hpos
      · exact h h34
      · exact h trivial
    · skip
      try simp only [Bool.and_eq_true, Bool.or_eq_true, Bool.and_eq_false_iff, Bool.or_eq_false_iff, Bool.not_eq_true', Bool.not_eq_false', decide_eq_true_eq, decide_eq_false_iff_not, beq_iff_eq, beq_eq_false_iff_ne, bne_iff_ne, bne_eq_false_iff_eq, ne_eq, Classical.not_not] at hc42
      refine wp_skip ?_
      refine wp_seq ?_
      refine wp_region_lit ?_
      refine s_val rfl rfl (v_load rfl rfl Tryz.underlying83 rfl sz83 (cx.row 0 rfl) rfl) ?_
      refine s_storeAll cx 2 rfl rfl rfl rfl rfl rfl sz83 rfl rfl ?_; intro w cx hwS9
      refine s_val rfl rfl (v_assign rfl rfl) ?_
      refine wpList_nil ?_
      refine wp_ret ?_
      refine ret_cell2 Tryz.results107 rfl rfl (cx.at 2 rfl) Tryz.underlying83 rfl sz83 ?_
      exact ⟨cx.ext, rfl⟩
end Go.Proofs.YthiafbkolhnadaaGreatDoor
end
section
set_option linter.unusedVariables false
set_option maxRecDepth 100000
namespace Go.Proofs.YthiafbkolhnadaaGreatDoor
open Go Go.Ev Go.RowKit Go.Dk
noncomputable def okH (n : Nat) : Bool := match evalE Tryz.prog env0 8 322 [.string (bs (hexs n)), .int .i64 16, .int .i64 8] with
  | some (.tuple a) => match a.toList with
    | [v, u] => eqV v (.int .u64 (n : Nat)) && eqV u .nilIface
    | _ => false
  | _ => false
theorem pu_k : (List.range 32).all okH = true := by kernel_rfl
theorem pu_127 : okH 127 = true := by kernel_rfl
theorem c322 (n : Nat) (h : n < 32 ∨ n = 127) (l : List UInt8) (hl : hexs n = l) (w : World) : Fc Tryz.prog 322 [.string (bs l), .int .i64 16, .int .i64 8] w fun u _ => u = .tuple #[.int .u64 (n : Nat), .nilIface] := by
  subst hl
  have h2 : okH n = true := by
    rcases h with h | rfl
    · exact List.all_eq_true.1 pu_k n (List.mem_range.2 h)
    · exact pu_127
  unfold okH at h2
  split at h2
  · rename_i a hv
    split at h2
    · rename_i v u ha
      rw [Bool.and_eq_true] at h2
      obtain rfl := eqV_eq h2.1
      obtain rfl := eqV_eq h2.2
      obtain rfl : a = #[.int .u64 (n : Nat), .nilIface] := Array.toList_inj.1 ha
      exact call_of hv w
    · cases h2
  · cases h2
end Go.Proofs.YthiafbkolhnadaaGreatDoor
end
section
set_option linter.unusedSimpArgs false
set_option linter.unusedVariables false
namespace Go.Proofs.YthiafbkolhnadaaGreatDoor
open Go Go.Dk Go.RowKit Go.Lib
attribute [local irreducible] Go.wpList Go.Code.wp Go.bodyPost Go.wpStill
set_option maxRecDepth 10000 in
theorem c20 (v u : Value) (l m : List Stp) (w0 : World) (hv : Pth w0 v l) (hu : Pth w0 u m) (hl : l.length ≤ 140737488355328) (hm : m.length ≤ 140737488355328) : Fc Tryz.prog 20 [v, u] w0 (IsB fun b => b = true ↔ l = m) := by
  obtain ⟨a, c, b, o, rfl, ha, hr⟩ := hv.form
  obtain ⟨a', c', b', o', rfl, ha', hr'⟩ := hu.form
  refine ret_enter Tryz.func20 rfl Tryz.ntmps20 rfl ?_
  have cx := Ctx.start w0
  refine wp_seq ?_
  refine wp_region_lit ?_
  refine s_val rfl rfl (v_assign rfl rfl) ?_
  refine wpList_nil ?_
  refine wp_seq ?_
  refine wp_seq ?_
  refine wp_region_lit ?_
  refine s_val rfl rfl (v_move rfl rfl) ?_
  refine s_val rfl rfl (v_lenSlice rfl rfl Tryz.underlying28) ?_
  refine s_val rfl rfl (v_move rfl rfl) ?_
  refine s_val rfl rfl (v_lenSlice rfl rfl Tryz.underlying28) ?_
  refine s_val rfl rfl (v_cmp rfl rfl rfl rfl) ?_
  refine wpList_nil ?_
  refine c_split rfl (fun hc10 => ?_) (fun hc10 => ?_)
  · skip
    try simp only [Bool.and_eq_true, Bool.or_eq_true, Bool.and_eq_false_iff, Bool.or_eq_false_iff, Bool.not_eq_true', Bool.not_eq_false', decide_eq_true_eq, decide_eq_false_iff_not, beq_iff_eq, beq_eq_false_iff_ne, bne_iff_ne, bne_eq_false_iff_eq, ne_eq, Classical.not_not] at hc10
    refine wp_seq ?_
    refine wp_region_lit ?_
    refine s_val rfl rfl (v_assign rfl rfl) ?_
    refine wpList_nil ?_
    refine wp_ret ?_
    refine ret_tmp Tryz.results20 rfl ?_
    refine ⟨cx.ext, _, rfl, (fun h => by cases h), fun h => ?_⟩
    subst h
    exact absurd rfl (by omega)
  · skip
    try simp only [Bool.and_eq_true, Bool.or_eq_true, Bool.and_eq_false_iff, Bool.or_eq_false_iff, Bool.not_eq_true', Bool.not_eq_false', decide_eq_true_eq, decide_eq_false_iff_not, beq_iff_eq, beq_eq_false_iff_ne, bne_iff_ne, bne_eq_false_iff_eq, ne_eq, Classical.not_not] at hc10
    refine wp_skip ?_
    refine wp_seq ?_
    refine wp_seq ?_
    refine wp_region_lit ?_
    refine s_val rfl rfl (v_assign rfl rfl) ?_
    refine wpList_nil ?_
    refine wp_block ?_
    refine w_loop (fun k f w1 => ∃ i : Nat, k + i = l.length ∧ f 0 = .slice a l.length c ∧ f 1 = .slice a' m.length c' ∧ f 5 = .int .i64 i ∧ l.take i = m.take i ∧ Ctx w0 w1 []) (l.length) ?_ ?_
    · skip
      exact ⟨0, by omega, rfl, rfl, rfl, by simp, cx⟩
    intro gk4 f w hJ
    obtain ⟨i, hk, hs0, hs1, hs5, hall, cx⟩ := hJ
    refine wp_seq ?_
    refine wp_seq ?_
    refine wp_region_lit ?_
    refine s_val rfl rfl (v_move rfl hs5) ?_
    refine s_val rfl rfl (v_move rfl hs0) ?_
    refine s_val rfl rfl (v_lenSlice rfl rfl Tryz.underlying28) ?_
    refine s_val rfl rfl (v_cmp rfl rfl rfl rfl) ?_
    refine wpList_nil ?_
    refine c_split rfl (fun hc14 => ?_) (fun hc14 => ?_)
    · skip
      try simp only [Bool.and_eq_true, Bool.or_eq_true, Bool.and_eq_false_iff, Bool.or_eq_false_iff, Bool.not_eq_true', Bool.not_eq_false', decide_eq_true_eq, decide_eq_false_iff_not, beq_iff_eq, beq_eq_false_iff_ne, bne_iff_ne, bne_eq_false_iff_eq, ne_eq, Classical.not_not] at hc14
      obtain ⟨x, hx⟩ : ∃ x, l[i]? = some x := ⟨l[i]'(by omega), List.getElem?_eq_getElem _⟩
      obtain ⟨y, hy⟩ : ∃ y, m[i]? = some y := ⟨m[i]'(by omega), List.getElem?_eq_getElem _⟩
      have hrx := hr i x hx
      have hry := hr' i y hy
      obtain rfl := ha (by omega)
      obtain rfl := ha' (by omega)
      refine wp_skip ?_
      refine wp_seq ?_
      refine wp_block ?_
      refine wp_seq ?_
      refine w_still cx mixed (by kernel_rfl) ?_; intro w cx hwD6
      refine t_val rfl rfl (v_move rfl hs0) ?_
      refine t_val rfl rfl (v_move rfl hs5) ?_
      refine t_val rfl rfl (v_ia Tryz.underlying28 sz107 rfl rfl rfl (by omega) (by omega)) ?_
      refine t_val rfl rfl (v_load rfl rfl Tryz.underlying107 rfl sz107 (hrx.up cx.ext) rfl) ?_
      refine t_val rfl rfl (v_move rfl hs1) ?_
      refine t_val rfl rfl (v_move rfl hs5) ?_
      refine t_val rfl rfl (v_ia Tryz.underlying28 sz107 rfl rfl rfl (by omega) (by omega)) ?_
      refine t_val rfl rfl (v_load rfl rfl Tryz.underlying107 rfl sz107 (hry.up cx.ext) rfl) ?_
      refine t_val rfl rfl (v_agg eqg107 (ne107 _ _ _ _ _ _) rfl rfl rfl) ?_
      refine t_nil ?_
      refine c_split rfl (fun hc25 => ?_) (fun hc25 => ?_)
      · skip
        try simp only [Bool.and_eq_true, Bool.or_eq_true, Bool.and_eq_false_iff, Bool.or_eq_false_iff, Bool.not_eq_true', Bool.not_eq_false', decide_eq_true_eq, decide_eq_false_iff_not, beq_iff_eq, beq_eq_false_iff_ne, bne_iff_ne, bne_eq_false_iff_eq, ne_eq, Classical.not_not] at hc25
        refine wp_seq ?_
        refine wp_region_lit ?_
        refine s_val rfl rfl (v_assign rfl rfl) ?_
        refine wpList_nil ?_
        refine wp_ret ?_
        refine ret_tmp Tryz.results20 rfl ?_
        refine ⟨cx.ext, _, rfl, (fun h => by cases h), fun h => ?_⟩
        subst h
        rw [hx] at hy
        cases hy
        simp at hc25
      · skip
        try simp only [Bool.and_eq_true, Bool.or_eq_true, Bool.and_eq_false_iff, Bool.or_eq_false_iff, Bool.not_eq_true', Bool.not_eq_false', decide_eq_true_eq, decide_eq_false_iff_not, beq_iff_eq, beq_eq_false_iff_ne, bne_iff_ne, bne_eq_false_iff_eq, ne_eq, Classical.not_not] at hc25
        refine wp_skip ?_
        refine wp_region_lit ?_
        refine s_val rfl rfl (v_move rfl hs5) ?_
        refine s_val rfl rfl (v_add rfl rfl rfl (by omega) (by omega)) ?_
        refine s_val rfl rfl (v_assign rfl rfl) ?_
        refine wpList_nil ?_
        refine ⟨gk4 - 1, _, by omega, rfl, i + 1, by omega, hs0, hs1, rfl, ?_, cx⟩
        obtain ⟨hi, e⟩ := List.getElem?_eq_some_iff.1 hx
        obtain ⟨hi', e'⟩ := List.getElem?_eq_some_iff.1 hy
        rw [List.take_succ_eq_append_getElem hi, List.take_succ_eq_append_getElem hi', hall, e, e']
        congr 2
        obtain ⟨x1, x2, x3⟩ := x
        obtain ⟨y1, y2, y3⟩ := y
        simp at hc25
        simp [hc25]
    · skip
      try simp only [Bool.and_eq_true, Bool.or_eq_true, Bool.and_eq_false_iff, Bool.or_eq_false_iff, Bool.not_eq_true', Bool.not_eq_false', decide_eq_true_eq, decide_eq_false_iff_not, beq_iff_eq, beq_eq_false_iff_ne, bne_iff_ne, bne_eq_false_iff_eq, ne_eq, Classical.not_not] at hc14
      refine wp_exit ?_
      refine wp_seq ?_
      refine wp_region_lit ?_
      refine s_val rfl rfl (v_assign rfl rfl) ?_
      refine wpList_nil ?_
      refine wp_ret ?_
      refine ret_tmp Tryz.results20 rfl ?_
      refine ⟨cx.ext, _, rfl, fun _ => ?_, fun _ => rfl⟩
      have e : i = l.length := by omega
      subst e
      rw [List.take_length] at hall
      rw [hall, show l.length = m.length by omega, List.take_length]
set_option maxRecDepth 10000 in
theorem c45 (v u : Value) (l m : List Stp) (w0 : World) (hv : Pth w0 v l) (hu : Pth w0 u m) (hl : l.length ≤ 140737488355328) (hm : m.length ≤ 140737488355328) : Fc Tryz.prog 45 [v, u] w0 (IsB fun b => b = true ↔ l = m) := by
  obtain ⟨a, c, b, o, rfl, ha, hr⟩ := hv.form
  obtain ⟨a', c', b', o', rfl, ha', hr'⟩ := hu.form
  refine ret_enter Tryz.func45 rfl Tryz.ntmps45 rfl ?_
  have cx := Ctx.start w0
  refine wp_seq ?_
  refine wp_region_lit ?_
  refine s_val rfl rfl (v_assign rfl rfl) ?_
  refine wpList_nil ?_
  refine wp_seq ?_
  refine wp_seq ?_
  refine wp_region_lit ?_
  refine s_val rfl rfl (v_move rfl rfl) ?_
  refine s_val rfl rfl (v_lenSlice rfl rfl Tryz.underlying28) ?_
  refine s_val rfl rfl (v_move rfl rfl) ?_
  refine s_val rfl rfl (v_lenSlice rfl rfl Tryz.underlying28) ?_
  refine s_val rfl rfl (v_cmp rfl rfl rfl rfl) ?_
  refine wpList_nil ?_
  refine c_split rfl (fun hc10 => ?_) (fun hc10 => ?_)
  · skip
    try simp only [Bool.and_eq_true, Bool.or_eq_true, Bool.and_eq_false_iff, Bool.or_eq_false_iff, Bool.not_eq_true', Bool.not_eq_false', decide_eq_true_eq, decide_eq_false_iff_not, beq_iff_eq, beq_eq_false_iff_ne, bne_iff_ne, bne_eq_false_iff_eq, ne_eq, Classical.not_not] at hc10
    refine wp_seq ?_
    refine wp_region_lit ?_
    refine s_val rfl rfl (v_assign rfl rfl) ?_
    refine wpList_nil ?_
    refine wp_ret ?_
    refine ret_tmp Tryz.results45 rfl ?_
    refine ⟨cx.ext, _, rfl, (fun h => by cases h), fun h => ?_⟩
    subst h
    exact absurd rfl (by omega)
  · skip
    try simp only [Bool.and_eq_true, Bool.or_eq_true, Bool.and_eq_false_iff, Bool.or_eq_false_iff, Bool.not_eq_true', Bool.not_eq_false', decide_eq_true_eq, decide_eq_false_iff_not, beq_iff_eq, beq_eq_false_iff_ne, bne_iff_ne, bne_eq_false_iff_eq, ne_eq, Classical.not_not] at hc10
    refine wp_skip ?_
    refine wp_seq ?_
    refine wp_seq ?_
    refine wp_region_lit ?_
    refine s_val rfl rfl (v_move rfl rfl) ?_
    refine s_val rfl rfl (v_lenSlice rfl rfl Tryz.underlying28) ?_
    refine s_val rfl rfl (v_move rfl rfl) ?_
    refine wpList_nil ?_
    refine wp_block ?_
    refine w_loop (fun k f w1 => ∃ i : Nat, k + i = l.length ∧ f 0 = .slice a l.length c ∧ f 1 = .slice a' m.length c' ∧ f 12 = .int .i64 l.length ∧ f 13 = .int .i64 i ∧ l.take i = m.take i ∧ Ctx w0 w1 []) (l.length) ?_ ?_
    · skip
      exact ⟨0, by omega, rfl, rfl, rfl, rfl, by simp, cx⟩
    intro gk4 f w hJ
    obtain ⟨i, hk, hs0, hs1, hs12, hs13, hall, cx⟩ := hJ
    refine wp_seq ?_
    refine wp_region_lit ?_
    refine s_val rfl rfl (v_cmp rfl hs13 hs12 rfl) ?_
    refine wpList_nil ?_
    refine wp_seq ?_
    refine c_split rfl (fun hc14 => ?_) (fun hc14 => ?_)
    · skip
      try simp only [Bool.and_eq_true, Bool.or_eq_true, Bool.and_eq_false_iff, Bool.or_eq_false_iff, Bool.not_eq_true', Bool.not_eq_false', decide_eq_true_eq, decide_eq_false_iff_not, beq_iff_eq, beq_eq_false_iff_ne, bne_iff_ne, bne_eq_false_iff_eq, ne_eq, Classical.not_not] at hc14
      obtain ⟨x, hx⟩ : ∃ x, l[i]? = some x := ⟨l[i]'(by omega), List.getElem?_eq_getElem _⟩
      obtain ⟨y, hy⟩ : ∃ y, m[i]? = some y := ⟨m[i]'(by omega), List.getElem?_eq_getElem _⟩
      have hrx := hr i x hx
      have hry := hr' i y hy
      obtain rfl := ha (by omega)
      obtain rfl := ha' (by omega)
      refine wp_skip ?_
      refine wp_seq ?_
      refine wp_block ?_
      refine wp_seq ?_
      refine wp_region_lit ?_
      refine s_val rfl rfl (v_move rfl hs13) ?_
      refine s_val rfl rfl (v_assign rfl rfl) ?_
      refine wpList_nil ?_
      refine wp_seq ?_
      refine w_still cx mixed (by kernel_rfl) ?_; intro w cx hwD6
      refine t_val rfl rfl (v_move rfl hs0) ?_
      refine t_val rfl rfl (v_move rfl rfl) ?_
      refine t_val rfl rfl (v_ia Tryz.underlying28 sz107 rfl rfl rfl (by omega) (by omega)) ?_
      refine t_val rfl rfl (v_load rfl rfl Tryz.underlying107 rfl sz107 (hrx.up cx.ext) rfl) ?_
      refine t_val rfl rfl (v_move rfl hs1) ?_
      refine t_val rfl rfl (v_move rfl rfl) ?_
      refine t_val rfl rfl (v_ia Tryz.underlying28 sz107 rfl rfl rfl (by omega) (by omega)) ?_
      refine t_val rfl rfl (v_load rfl rfl Tryz.underlying107 rfl sz107 (hry.up cx.ext) rfl) ?_
      refine t_val rfl rfl (v_agg eqg107 (ne107 _ _ _ _ _ _) rfl rfl rfl) ?_
      refine t_nil ?_
      refine c_split rfl (fun hc24 => ?_) (fun hc24 => ?_)
      · skip
        try simp only [Bool.and_eq_true, Bool.or_eq_true, Bool.and_eq_false_iff, Bool.or_eq_false_iff, Bool.not_eq_true', Bool.not_eq_false', decide_eq_true_eq, decide_eq_false_iff_not, beq_iff_eq, beq_eq_false_iff_ne, bne_iff_ne, bne_eq_false_iff_eq, ne_eq, Classical.not_not] at hc24
        refine wp_seq ?_
        refine wp_region_lit ?_
        refine s_val rfl rfl (v_assign rfl rfl) ?_
        refine wpList_nil ?_
        refine wp_ret ?_
        refine ret_tmp Tryz.results45 rfl ?_
        refine ⟨cx.ext, _, rfl, (fun h => by cases h), fun h => ?_⟩
        subst h
        rw [hx] at hy
        cases hy
        simp at hc24
      · skip
        try simp only [Bool.and_eq_true, Bool.or_eq_true, Bool.and_eq_false_iff, Bool.or_eq_false_iff, Bool.not_eq_true', Bool.not_eq_false', decide_eq_true_eq, decide_eq_false_iff_not, beq_iff_eq, beq_eq_false_iff_ne, bne_iff_ne, bne_eq_false_iff_eq, ne_eq, Classical.not_not] at hc24
        refine wp_skip ?_
        refine wp_region_lit ?_
        refine s_val rfl rfl (v_add rfl hs13 rfl (by omega) (by omega)) ?_
        refine s_val rfl rfl (v_move rfl rfl) ?_
        refine wpList_nil ?_
        refine ⟨gk4 - 1, _, by omega, rfl, i + 1, by omega, hs0, hs1, hs12, rfl, ?_, cx⟩
        obtain ⟨hi, e⟩ := List.getElem?_eq_some_iff.1 hx
        obtain ⟨hi', e'⟩ := List.getElem?_eq_some_iff.1 hy
        rw [List.take_succ_eq_append_getElem hi, List.take_succ_eq_append_getElem hi', hall, e, e']
        congr 2
        obtain ⟨x1, x2, x3⟩ := x
        obtain ⟨y1, y2, y3⟩ := y
        simp at hc24
        simp [hc24]
    · skip
      try simp only [Bool.and_eq_true, Bool.or_eq_true, Bool.and_eq_false_iff, Bool.or_eq_false_iff, Bool.not_eq_true', Bool.not_eq_false', decide_eq_true_eq, decide_eq_false_iff_not, beq_iff_eq, beq_eq_false_iff_ne, bne_iff_ne, bne_eq_false_iff_eq, ne_eq, Classical.not_not] at hc14
      refine wp_exit ?_
      refine wp_seq ?_
      refine wp_region_lit ?_
      refine s_val rfl rfl (v_assign rfl rfl) ?_
      refine wpList_nil ?_
      refine wp_ret ?_
      refine ret_tmp Tryz.results45 rfl ?_
      refine ⟨cx.ext, _, rfl, fun _ => ?_, fun _ => rfl⟩
      have e : i = l.length := by omega
      subst e
      rw [List.take_length] at hall
      rw [hall, show l.length = m.length by omega, List.take_length]
set_option maxRecDepth 10000 in
theorem c46 (v u : Value) (l m : List Stp) (w0 : World) (hv : Pth w0 v l) (hu : Pth w0 u m) (hl : l.length ≤ 140737488355328) (hm : m.length ≤ 140737488355328) : Fc Tryz.prog 46 [v, u] w0 (IsB fun b => b = true ↔ m.length ≤ l.length ∧ l.take m.length = m) := by
  obtain ⟨a, c, rfl, hcap⟩ := hv.sl
  obtain ⟨a', c', rfl, hcap'⟩ := hu.sl
  refine ret_enter Tryz.func46 rfl Tryz.ntmps46 rfl ?_
  have cx := Ctx.start w0
  refine wp_seq ?_
  refine wp_region_lit ?_
  refine s_val rfl rfl (v_assign rfl rfl) ?_
  refine wpList_nil ?_
  refine wp_seq ?_
  refine wp_region_lit ?_
  refine s_val rfl rfl (v_move rfl rfl) ?_
  refine s_val rfl rfl (v_lenSlice rfl rfl Tryz.underlying28) ?_
  refine s_val rfl rfl (v_move rfl rfl) ?_
  refine s_val rfl rfl (v_lenSlice rfl rfl Tryz.underlying28) ?_
  refine s_val rfl rfl (v_cmp rfl rfl rfl rfl) ?_
  refine s_val rfl rfl (v_move rfl rfl) ?_
  refine s_gval rfl rfl rfl (by first | exact w_tt rfl | exact w_gt rfl) (fun hc => v_move rfl (by first | exact gve hc rfl | exact gve (and_l hc) rfl | exact gve (and_l (and_l hc)) rfl | rfl)) ?_
  refine s_gval rfl rfl rfl (by first | exact w_tt rfl | exact w_gt rfl) (fun hc => v_move rfl (by first | exact gve hc rfl | exact gve (and_l hc) rfl | exact gve (and_l (and_l hc)) rfl | rfl)) ?_
  refine s_gval rfl rfl rfl (by first | exact w_tt rfl | exact w_gt rfl) (fun hc => v_lenSlice rfl (by first | exact gve hc rfl | exact gve (and_l hc) rfl | exact gve (and_l (and_l hc)) rfl | rfl) Tryz.underlying28) ?_
  refine s_gval rfl rfl rfl (by first | exact w_tt rfl | exact w_gt rfl) (fun hc => v_preSl rfl (by first | exact gve hc rfl | rfl) (by first | exact gve hc rfl | rfl) Tryz.underlying28 sz107 (by omega) (by first | omega | (simp only [Bool.and_eq_true, Bool.or_eq_true, Bool.and_eq_false_iff, Bool.or_eq_false_iff, Bool.not_eq_true', Bool.not_eq_false', decide_eq_true_eq, decide_eq_false_iff_not, beq_iff_eq, beq_eq_false_iff_ne, bne_iff_ne, bne_eq_false_iff_eq, ne_eq, Classical.not_not] at hc; omega))) ?_
  refine s_gval rfl rfl rfl (by first | exact w_tt rfl | exact w_gt rfl) (fun hc => v_move rfl (by first | exact gve hc rfl | exact gve (and_l hc) rfl | exact gve (and_l (and_l hc)) rfl | rfl)) ?_
  refine s_gfnB cx rfl rfl rfl (by first | exact w_tt rfl | exact w_gt rfl) (fun hc => c45 _ _ _ _ _ ((hv.up cx.ext).take (k := m.length) (by simp only [Bool.and_eq_true, Bool.or_eq_true, Bool.and_eq_false_iff, Bool.or_eq_false_iff, Bool.not_eq_true', Bool.not_eq_false', decide_eq_true_eq, decide_eq_false_iff_not, beq_iff_eq, beq_eq_false_iff_ne, bne_iff_ne, bne_eq_false_iff_eq, ne_eq, Classical.not_not] at hc; omega)) (hu.up cx.ext) (by simp; omega) (by omega)) Tryz.func45 rfl rfl rfl (fun hc => cons_eq (by first | exact gve hc rfl | rfl) (cons_eq (by first | exact gve hc rfl | rfl) rfl)) ?_; intro q16 w cx hw16 hp16
  refine s_val rfl rfl (v_and rfl rfl rfl rfl) ?_
  refine s_val rfl rfl (v_assign rfl rfl) ?_
  refine wpList_nil ?_
  refine wp_ret ?_
  refine ret_tmp Tryz.results46 rfl ?_
  refine ⟨cx.ext, _, rfl, ?_⟩
  simp only [Bool.and_eq_true, decide_eq_true_eq]
  constructor
  · rintro ⟨h1, h2⟩
    have h3 : m.length ≤ l.length := by omega
    exact ⟨h3, (hp16 (decide_eq_true h1)).1 h2⟩
  · rintro ⟨h1, h2⟩
    have h3 : (m.length : Int) ≤ (l.length : Int) := by omega
    exact ⟨h3, (hp16 (decide_eq_true h3)).2 h2⟩
set_option maxRecDepth 10000 in
theorem c43 (a b n : Int) (w0 : World) : Fc Tryz.prog 43 [.agg #[.int .i64 a, .int .i64 b], .int .i64 n] w0 (IsB fun r => r = true ↔ 0 ≤ a ∧ a ≤ b ∧ b ≤ n) := by
  refine ret_enter Tryz.func43 rfl Tryz.ntmps43 rfl ?_
  have cx := Ctx.start w0
  refine wp_seq ?_
  refine wp_region_lit ?_
  refine s_box cx rfl rfl rfl rfl rfl ?_; intro b2 w cx hb2 hw2
  refine s_val rfl rfl (v_assign rfl rfl) ?_
  refine wpList_nil ?_
  refine wp_seq ?_
  refine wp_region_lit ?_
  refine s_val rfl rfl (v_fa fa48_0 rfl rfl) ?_
  refine s_val rfl rfl (v_load1 rfl rfl Tryz.underlying3 rfl (cx.cell 0 rfl rfl)) ?_
  refine s_val rfl rfl (v_cmp rfl rfl rfl rfl) ?_
  refine s_val rfl rfl (v_move rfl rfl) ?_
  refine s_gval rfl rfl rfl (by first | exact w_tt rfl | exact w_gt rfl) (fun hc => v_fa fa48_0 rfl (by first | exact gve hc rfl | exact gve (and_l hc) rfl | exact gve (and_l (and_l hc)) rfl | rfl)) ?_
  refine s_gval rfl rfl rfl (by first | exact w_tt rfl | exact w_gt rfl) (fun hc => v_load1 rfl (by first | exact gve hc rfl | exact gve (and_l hc) rfl | exact gve (and_l (and_l hc)) rfl | rfl) Tryz.underlying3 rfl (cx.cell 0 rfl rfl)) ?_
  refine s_gval rfl rfl rfl (by first | exact w_tt rfl | exact w_gt rfl) (fun hc => v_fa fa48_1 rfl (by first | exact gve hc rfl | exact gve (and_l hc) rfl | exact gve (and_l (and_l hc)) rfl | rfl)) ?_
  refine s_gval rfl rfl rfl (by first | exact w_tt rfl | exact w_gt rfl) (fun hc => v_load1 rfl (by first | exact gve hc rfl | exact gve (and_l hc) rfl | exact gve (and_l (and_l hc)) rfl | rfl) Tryz.underlying3 rfl (cx.cell 0 rfl rfl)) ?_
  refine s_gval rfl rfl rfl (by first | exact w_tt rfl | exact w_gt rfl) (fun hc => v_cmp rfl (by first | exact gve hc rfl | exact gve (and_l hc) rfl | exact gve (and_l (and_l hc)) rfl | rfl) (by first | exact gve hc rfl | exact gve (and_l hc) rfl | exact gve (and_l (and_l hc)) rfl | rfl) rfl) ?_
  refine s_val rfl rfl (v_and rfl rfl rfl rfl) ?_
  refine s_val rfl rfl (v_move rfl rfl) ?_
  refine s_gval rfl rfl rfl (by first | exact w_tt rfl | exact w_gt rfl) (fun hc => v_fa fa48_1 rfl (by first | exact gve hc rfl | exact gve (and_l hc) rfl | exact gve (and_l (and_l hc)) rfl | rfl)) ?_
  refine s_gval rfl rfl rfl (by first | exact w_tt rfl | exact w_gt rfl) (fun hc => v_load1 rfl (by first | exact gve hc rfl | exact gve (and_l hc) rfl | exact gve (and_l (and_l hc)) rfl | rfl) Tryz.underlying3 rfl (cx.cell 0 rfl rfl)) ?_
  refine s_gval rfl rfl rfl (by first | exact w_tt rfl | exact w_gt rfl) (fun hc => v_move rfl (by first | exact gve hc rfl | exact gve (and_l hc) rfl | exact gve (and_l (and_l hc)) rfl | rfl)) ?_
  refine s_gval rfl rfl rfl (by first | exact w_tt rfl | exact w_gt rfl) (fun hc => v_cmp rfl (by first | exact gve hc rfl | exact gve (and_l hc) rfl | exact gve (and_l (and_l hc)) rfl | rfl) (by first | exact gve hc rfl | exact gve (and_l hc) rfl | exact gve (and_l (and_l hc)) rfl | rfl) rfl) ?_
  refine s_val rfl rfl (v_and rfl rfl rfl rfl) ?_
  refine s_val rfl rfl (v_assign rfl rfl) ?_
  refine wpList_nil ?_
  refine wp_ret ?_
  refine ret_tmp Tryz.results43 rfl ?_
  refine ⟨cx.ext, _, rfl, ?_⟩
  simp only [Bool.and_eq_true, decide_eq_true_eq]
  omega
end Go.Proofs.YthiafbkolhnadaaGreatDoor
end
section
set_option linter.unusedSimpArgs false
set_option linter.unusedVariables false
namespace Go.Proofs.YthiafbkolhnadaaGreatDoor
open Go Go.Dk Go.RowKit Go.Lib
attribute [local irreducible] Go.wpList Go.Code.wp Go.bodyPost Go.wpStill
theorem szA : (Tryz.prog.info? 5).map (·.size) = some 1 := by kernel_rfl
theorem zA : Zero Tryz.prog 360 (List.replicate 65 (.int .u8 0)) := zero_of (v := .agg (List.replicate 65 (.int .u8 0)).toArray) (by kernel_rfl) rfl
set_option maxHeartbeats 4000000 in
set_option maxRecDepth 10000 in
theorem c292 (w0 : World) : Fc Tryz.prog 292 [.int .i64 16] w0 (IsB fun b => b = true) := by
  refine ret_enter Tryz.func292 rfl Tryz.ntmps292 rfl ?_
  have cx := Ctx.start w0
  refine wp_seq ?_
  refine wp_region_lit ?_
  refine s_val rfl rfl (v_assign rfl rfl) ?_
  refine wpList_nil ?_
  refine wp_seq ?_
  refine wp_region_lit ?_
  refine s_val rfl rfl (v_move rfl rfl) ?_
  refine s_val rfl rfl (v_move rfl rfl) ?_
  refine s_val rfl rfl (v_sub rfl rfl rfl (by omega) (by omega)) ?_
  refine s_val rfl rfl (v_band rfl rfl rfl) ?_
  refine s_val rfl rfl (v_cmp rfl rfl rfl rfl) ?_
  refine s_val rfl rfl (v_assign rfl rfl) ?_
  refine wpList_nil ?_
  refine wp_ret ?_
  refine ret_tmp Tryz.results292 rfl ?_
  exact ⟨cx.ext, _, rfl, by decide⟩
theorem and15u {m : Nat} (h : m < 256) : bitOp .and .u64 (m : Int) 15 = ((m % 16 : Nat) : Int) := by
  have : ∀ b : Fin 256, bitOp .and .u64 (b.val : Int) 15 = ((b.val % 16 : Nat) : Int) := by decide +kernel
  exact this ⟨m, h⟩
theorem shr4u {m : Nat} (h : m < 256) : shr .u64 (m : Int) 4 = ((m / 16 : Nat) : Int) := by
  have : ∀ b : Fin 256, shr .u64 (b.val : Int) 4 = ((b.val / 16 : Nat) : Int) := by decide +kernel
  exact this ⟨m, h⟩
def dgb : ByteArray := ⟨#[48, 49, 50, 51, 52, 53, 54, 55, 56, 57, 97, 98, 99, 100, 101, 102, 103, 104, 105, 106, 107, 108, 109, 110, 111, 112, 113, 114, 115, 116, 117, 118, 119, 120, 121, 122]⟩
theorem digs {m : Nat} (h : m < 16) : byteAt dgb (m : Int) = ((hexd m).toNat : Int) := by
  have : ∀ b : Fin 16, byteAt dgb (b.val : Int) = ((hexd b.val).toNat : Int) := by decide +kernel
  exact this ⟨m, h⟩
theorem dig_and {m : Nat} (h : m < 256) : byteAt dgb (bitOp .and .u64 (m : Int) 15) = ((hexd (m % 16)).toNat : Int) := by rw [and15u h]; exact digs (by omega)
theorem strOf_a {a : UInt8} : strOf [(a.toNat : Int)] = bs [a] := strOf_bs [a]
theorem strOf_ab {a b : UInt8} : strOf [(a.toNat : Int), (b.toNat : Int)] = bs [a, b] := strOf_bs [a, b]
set_option maxHeartbeats 4000000 in
set_option maxRecDepth 10000 in
theorem c216a (m : Nat) (w0 : World) (hm : m < 16) (ht : Tabs w0) : Fc Tryz.prog 216 [.slice none 0 0, .int .u64 m, .int .i64 16, .bool false, .bool false] w0 (fun v _ => ∃ x, v = .tuple #[x, .string (bs (hexs m))]) := by
  refine ret_enter Tryz.func216 rfl Tryz.ntmps216 rfl ?_
  have cx := Ctx.start w0
  refine wp_seq ?_
  refine wp_region_lit ?_
  refine s_val rfl rfl (v_assign rfl rfl) ?_
  refine s_val rfl rfl (v_assign rfl rfl) ?_
  refine wpList_nil ?_
  refine wp_seq ?_
  refine wp_seq ?_
  refine wp_region_lit ?_
  refine s_val rfl rfl (v_move rfl rfl) ?_
  refine s_val rfl rfl (v_cmp rfl rfl rfl rfl) ?_
  refine s_val rfl rfl (v_move rfl rfl) ?_
  refine s_gval rfl rfl rfl (by first | exact w_ff rfl | exact w_gf rfl) (fun hc => v_move rfl (by first | exact gve hc rfl | exact gve (and_l hc) rfl | exact gve (and_l (and_l hc)) rfl | rfl)) ?_
  refine s_gval rfl rfl rfl (by first | exact w_ff rfl | exact w_gf rfl) (fun hc => v_cmp rfl (by first | exact gve hc rfl | exact gve (and_l hc) rfl | exact gve (and_l (and_l hc)) rfl | rfl) rfl rfl) ?_
  refine s_val rfl rfl (v_or rfl rfl rfl rfl) ?_
  refine s_val rfl rfl (v_move rfl rfl) ?_
  refine s_gval rfl rfl rfl (by first | exact w_ff rfl | exact w_gf rfl) (fun hc => v_move rfl (by first | exact gve hc rfl | exact gve (and_l hc) rfl | exact gve (and_l (and_l hc)) rfl | rfl)) ?_
  refine s_gval rfl rfl rfl (by first | exact w_ff rfl | exact w_gf rfl) (fun hc => v_cmp rfl (by first | exact gve hc rfl | exact gve (and_l hc) rfl | exact gve (and_l (and_l hc)) rfl | rfl) rfl rfl) ?_
  refine s_val rfl rfl (v_or rfl rfl rfl rfl) ?_
  refine wpList_nil ?_
  refine wp_cond_false (show (St _ _).eval _ = _ by rw [eval_St]; rfl) ?_
  refine wp_skip ?_
  refine wp_seq ?_
  refine wp_region_lit ?_
  refine s_alloc cx zA rfl rfl rfl ?_; intro b12 w cx hb12 hw12
  refine wpList_nil ?_
  refine wp_seq ?_
  refine wp_region_lit ?_
  refine s_val rfl rfl (v_assign rfl rfl) ?_
  refine wpList_nil ?_
  refine wp_seq ?_
  refine wp_seq ?_
  refine wp_region_lit ?_
  refine s_val rfl rfl (v_move rfl rfl) ?_
  refine wpList_nil ?_
  refine wp_cond_false (show (St _ _).eval _ = _ by rw [eval_St]; rfl) ?_
  refine wp_skip ?_
  refine wp_seq ?_
  refine wp_seq ?_
  refine wp_region_lit ?_
  refine s_val rfl rfl (v_move rfl rfl) ?_
  refine s_fnB cx (c292 _) Tryz.func292 rfl rfl rfl rfl rfl rfl ?_; intro q34 w cx hw34 hp34
  subst hp34
  refine wpList_nil ?_
  refine wp_cond_true (show (St _ _).eval _ = _ by rw [eval_St]; rfl) ?_
  refine wp_seq ?_
  refine wp_region_lit ?_
  refine s_val rfl rfl (v_move rfl rfl) ?_
  refine s_val rfl rfl (v_conv rfl rfl Tryz.underlying3 Tryz.underlying237) ?_
  refine s_fnI cx (c293 _ (ht.up cx.ext)) Tryz.func293 rfl rfl rfl rfl rfl rfl ?_; intro q37 w cx hw37 hp37
  subst hp37
  refine s_val rfl rfl (v_conv rfl rfl Tryz.underlying3 Tryz.underlying237) ?_
  refine s_val rfl rfl (v_assign rfl rfl) ?_
  refine wpList_nil ?_
  refine wp_seq ?_
  refine wp_region_lit ?_
  refine s_val rfl rfl (v_move rfl rfl) ?_
  refine s_val rfl rfl (v_conv rfl rfl Tryz.underlying3 Tryz.underlying299) ?_
  refine s_val rfl rfl (v_assign rfl rfl) ?_
  refine wpList_nil ?_
  refine wp_seq ?_
  refine wp_region_lit ?_
  refine s_val rfl rfl (v_move rfl rfl) ?_
  refine s_val rfl rfl (v_conv rfl rfl Tryz.underlying3 Tryz.underlying237) ?_
  refine s_val rfl rfl (v_subK rfl rfl rfl) ?_
  refine s_val rfl rfl (v_assign rfl rfl) ?_
  refine wpList_nil ?_
  refine wp_seq ?_
  refine wp_block ?_
  refine w_loop (fun k f w1 => f 1 = .int .u64 m ∧ f 13 = .int .i64 65 ∧ (∃ b12, f 12 = .pointer (some ⟨b12, 0, none⟩) ∧ Ctx w0 w1 [(b12, .cells (List.replicate 65 (Value.int .u8 0)).toArray 360)]) ∧ f 15 = .int .u64 16 ∧ f 16 = .int .u64 15 ∧ f 14 = .int .u64 4 ∧ f 3 = .bool false ∧ f 4 = .bool false ∧ f 10 = .slice none 0 0) (0) ?_ ?_
  · skip
    exact ⟨rfl, rfl, ⟨_, rfl, cx⟩, rfl, rfl, rfl, rfl, rfl, rfl⟩
  intro gk11 f w hJ
  obtain ⟨hs1, hs13, ⟨b12, hs12, cx⟩, hs15, hs16, hs14, hs3, hs4, hs10⟩ := hJ
  refine wp_seq ?_
  refine wp_seq ?_
  refine wp_region_lit ?_
  refine s_val rfl rfl (v_move rfl hs1) ?_
  refine s_val rfl rfl (v_move rfl hs15) ?_
  refine s_val rfl rfl (v_cmp rfl rfl rfl rfl) ?_
  refine wpList_nil ?_
  refine c_split rfl (fun hc46 => ?_) (fun hc46 => ?_)
  · skip
    exfalso
    simp at hc46
    omega
  · skip
    try simp only [Bool.and_eq_true, Bool.or_eq_true, Bool.and_eq_false_iff, Bool.or_eq_false_iff, Bool.not_eq_true', Bool.not_eq_false', decide_eq_true_eq, decide_eq_false_iff_not, beq_iff_eq, beq_eq_false_iff_ne, bne_iff_ne, bne_eq_false_iff_eq, ne_eq, Classical.not_not] at hc46
    refine wp_exit ?_
    refine wp_seq ?_
    refine wp_region_lit ?_
    refine s_val rfl rfl (v_move rfl hs13) ?_
    refine s_val rfl rfl (v_sub rfl rfl rfl (by omega) (by omega)) ?_
    refine s_val rfl rfl (v_assign rfl rfl) ?_
    refine wpList_nil ?_
    refine wp_region_lit ?_
    refine s_val rfl rfl (v_move rfl rfl) ?_
    refine s_val rfl rfl (v_move rfl hs1) ?_
    refine s_val rfl rfl (v_idxStr rfl rfl rfl Tryz.underlying9 (by omega) (by show _ < (36 : Int); omega)) ?_
    refine s_val rfl rfl (v_iaA Tryz.underlying360 szA rfl hs12 rfl (by decide) (by decide)) ?_
    refine s_store1 (v := .int .u8 (hexd (m)).toNat) cx 0 rfl rfl rfl rfl (congrArg (Value.int .u8) (digs (by omega))) rfl rfl rfl sz5 ?_; intro w cx hwS16
    refine wpList_nil ?_
    refine wp_seq ?_
    refine wp_seq ?_
    refine wp_region_lit ?_
    refine s_val rfl rfl (v_move rfl hs3) ?_
    refine wpList_nil ?_
    refine wp_cond_false (show (St _ _).eval _ = _ by rw [eval_St]; rfl) ?_
    refine wp_skip ?_
    refine wp_seq ?_
    refine wp_seq ?_
    refine wp_region_lit ?_
    refine s_val rfl rfl (v_move rfl hs4) ?_
    refine wpList_nil ?_
    refine wp_cond_false (show (St _ _).eval _ = _ by rw [eval_St]; rfl) ?_
    refine wp_skip ?_
    refine wp_seq ?_
    refine wp_region_lit ?_
    refine s_val rfl rfl (v_move rfl rfl) ?_
    refine s_val rfl rfl (v_slA rfl hs12 rfl Tryz.underlying360 szA (by decide) (by decide)) ?_
    refine s_val rfl rfl (v_b2s rfl Tryz.underlying79 Tryz.underlying5 Tryz.underlying9 (ns := [((hexd m).toNat : Int)]) ((cx.row 0 rfl).sub 64 rfl) rfl rfl) ?_
    refine s_val rfl rfl (v_assign rfl rfl) ?_
    refine wpList_nil ?_
    refine wp_ret ?_
    refine ret_tmp2 Tryz.results216 hs10 rfl ?_
    refine ⟨cx.ext, _, congrArg (fun z => Value.tuple #[_, Value.string z]) ?_⟩
    rw [strOf_a]
    unfold hexs
    rw [if_pos (by omega)]
set_option maxHeartbeats 4000000 in
set_option maxRecDepth 10000 in
theorem c216b (m : Nat) (w0 : World) (hm : 16 ≤ m) (hm2 : m < 256) (ht : Tabs w0) : Fc Tryz.prog 216 [.slice none 0 0, .int .u64 m, .int .i64 16, .bool false, .bool false] w0 (fun v _ => ∃ x, v = .tuple #[x, .string (bs (hexs m))]) := by
  refine ret_enter Tryz.func216 rfl Tryz.ntmps216 rfl ?_
  have cx := Ctx.start w0
  refine wp_seq ?_
  refine wp_region_lit ?_
  refine s_val rfl rfl (v_assign rfl rfl) ?_
  refine s_val rfl rfl (v_assign rfl rfl) ?_
  refine wpList_nil ?_
  refine wp_seq ?_
  refine wp_seq ?_
  refine wp_region_lit ?_
  refine s_val rfl rfl (v_move rfl rfl) ?_
  refine s_val rfl rfl (v_cmp rfl rfl rfl rfl) ?_
  refine s_val rfl rfl (v_move rfl rfl) ?_
  refine s_gval rfl rfl rfl (by first | exact w_ff rfl | exact w_gf rfl) (fun hc => v_move rfl (by first | exact gve hc rfl | exact gve (and_l hc) rfl | exact gve (and_l (and_l hc)) rfl | rfl)) ?_
  refine s_gval rfl rfl rfl (by first | exact w_ff rfl | exact w_gf rfl) (fun hc => v_cmp rfl (by first | exact gve hc rfl | exact gve (and_l hc) rfl | exact gve (and_l (and_l hc)) rfl | rfl) rfl rfl) ?_
  refine s_val rfl rfl (v_or rfl rfl rfl rfl) ?_
  refine s_val rfl rfl (v_move rfl rfl) ?_
  refine s_gval rfl rfl rfl (by first | exact w_ff rfl | exact w_gf rfl) (fun hc => v_move rfl (by first | exact gve hc rfl | exact gve (and_l hc) rfl | exact gve (and_l (and_l hc)) rfl | rfl)) ?_
  refine s_gval rfl rfl rfl (by first | exact w_ff rfl | exact w_gf rfl) (fun hc => v_cmp rfl (by first | exact gve hc rfl | exact gve (and_l hc) rfl | exact gve (and_l (and_l hc)) rfl | rfl) rfl rfl) ?_
  refine s_val rfl rfl (v_or rfl rfl rfl rfl) ?_
  refine wpList_nil ?_
  refine wp_cond_false (show (St _ _).eval _ = _ by rw [eval_St]; rfl) ?_
  refine wp_skip ?_
  refine wp_seq ?_
  refine wp_region_lit ?_
  refine s_alloc cx zA rfl rfl rfl ?_; intro b12 w cx hb12 hw12
  refine wpList_nil ?_
  refine wp_seq ?_
  refine wp_region_lit ?_
  refine s_val rfl rfl (v_assign rfl rfl) ?_
  refine wpList_nil ?_
  refine wp_seq ?_
  refine wp_seq ?_
  refine wp_region_lit ?_
  refine s_val rfl rfl (v_move rfl rfl) ?_
  refine wpList_nil ?_
  refine wp_cond_false (show (St _ _).eval _ = _ by rw [eval_St]; rfl) ?_
  refine wp_skip ?_
  refine wp_seq ?_
  refine wp_seq ?_
  refine wp_region_lit ?_
  refine s_val rfl rfl (v_move rfl rfl) ?_
  refine s_fnB cx (c292 _) Tryz.func292 rfl rfl rfl rfl rfl rfl ?_; intro q34 w cx hw34 hp34
  subst hp34
  refine wpList_nil ?_
  refine wp_cond_true (show (St _ _).eval _ = _ by rw [eval_St]; rfl) ?_
  refine wp_seq ?_
  refine wp_region_lit ?_
  refine s_val rfl rfl (v_move rfl rfl) ?_
  refine s_val rfl rfl (v_conv rfl rfl Tryz.underlying3 Tryz.underlying237) ?_
  refine s_fnI cx (c293 _ (ht.up cx.ext)) Tryz.func293 rfl rfl rfl rfl rfl rfl ?_; intro q37 w cx hw37 hp37
  subst hp37
  refine s_val rfl rfl (v_conv rfl rfl Tryz.underlying3 Tryz.underlying237) ?_
  refine s_val rfl rfl (v_assign rfl rfl) ?_
  refine wpList_nil ?_
  refine wp_seq ?_
  refine wp_region_lit ?_
  refine s_val rfl rfl (v_move rfl rfl) ?_
  refine s_val rfl rfl (v_conv rfl rfl Tryz.underlying3 Tryz.underlying299) ?_
  refine s_val rfl rfl (v_assign rfl rfl) ?_
  refine wpList_nil ?_
  refine wp_seq ?_
  refine wp_region_lit ?_
  refine s_val rfl rfl (v_move rfl rfl) ?_
  refine s_val rfl rfl (v_conv rfl rfl Tryz.underlying3 Tryz.underlying237) ?_
  refine s_val rfl rfl (v_subK rfl rfl rfl) ?_
  refine s_val rfl rfl (v_assign rfl rfl) ?_
  refine wpList_nil ?_
  refine wp_seq ?_
  refine wp_block ?_
  refine w_loop (fun k f w1 => ∃ (u : Nat) (cs : List Value), ((k = 1 ∧ m = u ∧ cs = List.replicate 65 (Value.int .u8 0)) ∨ (k = 0 ∧ m / 16 = u ∧ cs = (List.replicate 65 (Value.int .u8 0)).set 64 (.int .u8 (hexd (m % 16)).toNat))) ∧ f 1 = .int .u64 u ∧ f 13 = .int .i64 ((64 + k : Nat) : Int) ∧ (∃ b12, f 12 = .pointer (some ⟨b12, 0, none⟩) ∧ Ctx w0 w1 [(b12, .cells cs.toArray 360)]) ∧ f 15 = .int .u64 16 ∧ f 16 = .int .u64 15 ∧ f 14 = .int .u64 4 ∧ f 3 = .bool false ∧ f 4 = .bool false ∧ f 10 = .slice none 0 0) (1) ?_ ?_
  · skip
    exact ⟨m, _, .inl ⟨rfl, rfl, rfl⟩, rfl, rfl, ⟨_, rfl, cx⟩, rfl, rfl, rfl, rfl, rfl, rfl⟩
  intro gk11 f w hJ
  obtain ⟨u, cs, hcase, hs1, hs13, ⟨b12, hs12, cx⟩, hs15, hs16, hs14, hs3, hs4, hs10⟩ := hJ
  refine wp_seq ?_
  refine wp_seq ?_
  refine wp_region_lit ?_
  refine s_val rfl rfl (v_move rfl hs1) ?_
  refine s_val rfl rfl (v_move rfl hs15) ?_
  refine s_val rfl rfl (v_cmp rfl rfl rfl rfl) ?_
  refine wpList_nil ?_
  refine c_split rfl (fun hc46 => ?_) (fun hc46 => ?_)
  · skip
    try simp only [Bool.and_eq_true, Bool.or_eq_true, Bool.and_eq_false_iff, Bool.or_eq_false_iff, Bool.not_eq_true', Bool.not_eq_false', decide_eq_true_eq, decide_eq_false_iff_not, beq_iff_eq, beq_eq_false_iff_ne, bne_iff_ne, bne_eq_false_iff_eq, ne_eq, Classical.not_not] at hc46
    rcases hcase with ⟨rfl, rfl, rfl⟩ | ⟨rfl, rfl, rfl⟩
    case inr => exfalso; omega
    refine wp_skip ?_
    refine wp_block ?_
    refine wp_seq ?_
    refine wp_region_lit ?_
    refine s_val rfl rfl (v_move rfl hs13) ?_
    refine s_val rfl rfl (v_sub rfl rfl rfl (by omega) (by omega)) ?_
    refine s_val rfl rfl (v_assign rfl rfl) ?_
    refine wpList_nil ?_
    refine wp_seq ?_
    refine wp_region_lit ?_
    refine s_val rfl rfl (v_move rfl rfl) ?_
    refine s_val rfl rfl (v_move rfl hs1) ?_
    refine s_val rfl rfl (v_move rfl hs16) ?_
    refine s_val rfl rfl (v_band rfl rfl rfl) ?_
    refine s_val rfl rfl (v_idxStr rfl rfl rfl Tryz.underlying9 (by rw [and15u (by omega)]; omega) (by rw [and15u (by omega)]; show _ < (36 : Int); omega)) ?_
    refine s_val rfl rfl (v_iaA Tryz.underlying360 szA rfl hs12 rfl (by decide) (by decide)) ?_
    refine s_store1 (v := .int .u8 (hexd (m % 16)).toNat) cx 0 rfl rfl rfl rfl (congrArg (Value.int .u8) (dig_and (by omega))) rfl rfl rfl sz5 ?_; intro w cx hwS13
    refine wpList_nil ?_
    refine wp_region_lit ?_
    refine s_val rfl rfl (v_move rfl hs1) ?_
    refine s_val rfl rfl (v_move rfl hs14) ?_
    refine s_val rfl rfl (v_shr rfl rfl rfl (by decide)) ?_
    refine s_val rfl rfl (v_assign rfl rfl) ?_
    refine wpList_nil ?_
    refine ⟨0, _, by omega, rfl, m / 16, _, .inr ⟨rfl, rfl, rfl⟩, congrArg (Value.int .u64) (shr4u (by omega)), rfl, ⟨_, hs12, cx⟩, hs15, hs16, hs14, hs3, hs4, hs10⟩
  · skip
    try simp only [Bool.and_eq_true, Bool.or_eq_true, Bool.and_eq_false_iff, Bool.or_eq_false_iff, Bool.not_eq_true', Bool.not_eq_false', decide_eq_true_eq, decide_eq_false_iff_not, beq_iff_eq, beq_eq_false_iff_ne, bne_iff_ne, bne_eq_false_iff_eq, ne_eq, Classical.not_not] at hc46
    rcases hcase with ⟨rfl, rfl, rfl⟩ | ⟨rfl, rfl, rfl⟩
    case inl => exfalso; omega
    refine wp_exit ?_
    refine wp_seq ?_
    refine wp_region_lit ?_
    refine s_val rfl rfl (v_move rfl hs13) ?_
    refine s_val rfl rfl (v_sub rfl rfl rfl (by omega) (by omega)) ?_
    refine s_val rfl rfl (v_assign rfl rfl) ?_
    refine wpList_nil ?_
    refine wp_region_lit ?_
    refine s_val rfl rfl (v_move rfl rfl) ?_
    refine s_val rfl rfl (v_move rfl hs1) ?_
    refine s_val rfl rfl (v_idxStr rfl rfl rfl Tryz.underlying9 (by omega) (by show _ < (36 : Int); omega)) ?_
    refine s_val rfl rfl (v_iaA Tryz.underlying360 szA rfl hs12 rfl (by decide) (by decide)) ?_
    refine s_store1 (v := .int .u8 (hexd (m / 16)).toNat) cx 0 rfl rfl rfl rfl (congrArg (Value.int .u8) (digs (by omega))) rfl rfl rfl sz5 ?_; intro w cx hwS16
    refine wpList_nil ?_
    refine wp_seq ?_
    refine wp_seq ?_
    refine wp_region_lit ?_
    refine s_val rfl rfl (v_move rfl hs3) ?_
    refine wpList_nil ?_
    refine wp_cond_false (show (St _ _).eval _ = _ by rw [eval_St]; rfl) ?_
    refine wp_skip ?_
    refine wp_seq ?_
    refine wp_seq ?_
    refine wp_region_lit ?_
    refine s_val rfl rfl (v_move rfl hs4) ?_
    refine wpList_nil ?_
    refine wp_cond_false (show (St _ _).eval _ = _ by rw [eval_St]; rfl) ?_
    refine wp_skip ?_
    refine wp_seq ?_
    refine wp_region_lit ?_
    refine s_val rfl rfl (v_move rfl rfl) ?_
    refine s_val rfl rfl (v_slA rfl hs12 rfl Tryz.underlying360 szA (by decide) (by decide)) ?_
    refine s_val rfl rfl (v_b2s rfl Tryz.underlying79 Tryz.underlying5 Tryz.underlying9 (ns := [((hexd (m / 16)).toNat : Int), ((hexd (m % 16)).toNat : Int)]) ((cx.row 0 rfl).sub 63 rfl) rfl rfl) ?_
    refine s_val rfl rfl (v_assign rfl rfl) ?_
    refine wpList_nil ?_
    refine wp_ret ?_
    refine ret_tmp2 Tryz.results216 hs10 rfl ?_
    refine ⟨cx.ext, _, congrArg (fun z => Value.tuple #[_, Value.string z]) ?_⟩
    rw [strOf_ab]
    unfold hexs
    rw [if_neg (by omega)]
theorem c216 (m : Nat) (w0 : World) (hm2 : m < 256) (ht : Tabs w0) : Fc Tryz.prog 216 [.slice none 0 0, .int .u64 m, .int .i64 16, .bool false, .bool false] w0 (fun v _ => ∃ x, v = .tuple #[x, .string (bs (hexs m))]) := by
  by_cases h : m < 16
  · exact c216a m w0 h ht
  · exact c216b m w0 (by omega) hm2 ht
theorem wrap64 {m : Nat} (h : m < 256) : IntKind.u64.wrap (m : Int) = (m : Int) := by simp [IntKind.wrap, IntKind.signed, IntKind.bits]; omega
set_option maxHeartbeats 4000000 in
set_option maxRecDepth 10000 in
theorem c153 (m : Nat) (w0 : World) (hm : m < 256) (ht : Tabs w0) : Fc Tryz.prog 153 [.int .i64 m, .int .i64 16] w0 (fun v _ => v = .string (bs (hexs m))) := by
  refine ret_enter Tryz.func153 rfl Tryz.ntmps153 rfl ?_
  have cx := Ctx.start w0
  refine wp_seq ?_
  refine wp_region_lit ?_
  refine s_val rfl rfl (v_assign rfl rfl) ?_
  refine wpList_nil ?_
  refine wp_seq ?_
  refine wp_seq ?_
  refine wp_region_lit ?_
  refine s_val rfl rfl (v_move rfl rfl) ?_
  refine s_val rfl rfl (v_cmp rfl rfl rfl rfl) ?_
  refine wpList_nil ?_
  refine wp_cond_false (show (St _ _).eval _ = _ by rw [eval_St]; rfl) ?_
  refine wp_skip ?_
  refine wp_seq ?_
  refine wp_region_lit ?_
  refine s_val rfl rfl (v_move rfl rfl) ?_
  refine s_val rfl rfl (v_cw64 rfl rfl Tryz.underlying2 Tryz.underlying299 hm) ?_
  refine s_val rfl rfl (v_move rfl rfl) ?_
  refine s_val rfl rfl (v_move rfl rfl) ?_
  refine s_val rfl rfl (v_cmpF rfl rfl rfl (by omega)) ?_
  refine s_fn cx (c216 _ _ hm (ht.up cx.ext)) Tryz.func216 rfl rfl rfl rfl rfl rfl ?_; intro q50 w cx hw50 hp50
  obtain ⟨ex50, rfl⟩ := hp50
  refine s_val rfl rfl (v_move rfl rfl) ?_
  refine s_val rfl rfl (v_extract rfl rfl rfl) ?_
  refine s_val rfl rfl (v_extract rfl rfl rfl) ?_
  refine s_val rfl rfl (v_assign rfl rfl) ?_
  refine s_val rfl rfl (v_assign rfl rfl) ?_
  refine wpList_nil ?_
  refine wp_seq ?_
  refine wp_region_lit ?_
  refine s_val rfl rfl (v_move rfl rfl) ?_
  refine s_val rfl rfl (v_assign rfl rfl) ?_
  refine wpList_nil ?_
  refine wp_ret ?_
  refine ret_tmp Tryz.results153 rfl ?_
  exact ⟨cx.ext, rfl⟩
set_option maxHeartbeats 4000000 in
set_option maxRecDepth 10000 in
theorem c151n (m : Nat) (w0 : World) (hm : m < 256) (ht : Tabs w0) : Fc Tryz.prog 151 [.int .i64 m, .int .i64 16] w0 (fun v _ => v = .string (bs (hexs m))) := by
  refine ret_enter Tryz.func151 rfl Tryz.ntmps151 rfl ?_
  have cx := Ctx.start w0
  refine wp_seq ?_
  refine wp_region_lit ?_
  refine s_val rfl rfl (v_assign rfl rfl) ?_
  refine wpList_nil ?_
  refine wp_seq ?_
  refine wp_region_lit ?_
  refine s_val rfl rfl (v_move rfl rfl) ?_
  refine s_val rfl rfl (v_move rfl rfl) ?_
  refine s_fn cx (c153 _ _ hm (ht.up cx.ext)) Tryz.func153 rfl rfl rfl rfl rfl rfl ?_; intro q7 w cx hw7 hp7
  subst hp7
  refine s_val rfl rfl (v_assign rfl rfl) ?_
  refine wpList_nil ?_
  refine wp_ret ?_
  refine ret_tmp Tryz.results151 rfl ?_
  exact ⟨cx.ext, rfl⟩
theorem c151 (m : Int) (w0 : World) (ht : Tabs w0) (h0 : 0 ≤ m) (hm : m < 256) : Fc Tryz.prog 151 [.int .i64 m, .int .i64 16] w0 (fun v _ => v = .string (bs (hexs m.toNat))) := by
  have h := c151n m.toNat w0 (by omega) ht
  rw [show ((m.toNat : Nat) : Int) = m by omega] at h
  exact h
end Go.Proofs.YthiafbkolhnadaaGreatDoor
end
section
set_option linter.unusedSimpArgs false
set_option linter.unusedVariables false
namespace Go.Proofs.YthiafbkolhnadaaGreatDoor
open Go Go.Dk Go.RowKit Go.Lib
attribute [local irreducible] Go.wpList Go.Code.wp Go.bodyPost Go.wpStill
set_option maxRecDepth 10000 in
theorem c93 (s : ByteArray) (w0 : World) (hs : s.size ≤ 1073741824) : Fc Tryz.prog 93 [.string s] w0 (fun u _ => u = .int .i64 (folN s)) := by
  refine ret_enter Tryz.func93 rfl Tryz.ntmps93 rfl ?_
  have cx := Ctx.start w0
  refine wp_seq ?_
  refine wp_region_lit ?_
  refine s_val rfl rfl (v_assign rfl rfl) ?_
  refine wpList_nil ?_
  refine wp_seq ?_
  refine wp_region_lit ?_
  refine s_val rfl rfl (v_assign rfl rfl) ?_
  refine wpList_nil ?_
  refine wp_seq ?_
  refine wp_block ?_
  refine w_loop (fun k f w1 => ∃ i : Nat, k + i = s.size ∧ f 0 = .string s ∧ f 3 = .int .i64 i ∧ (∀ j : Nat, j < i → okN s j) ∧ Ctx w0 w1 []) (s.size) ?_ ?_
  · skip
    exact ⟨0, by omega, rfl, rfl, fun j h => by omega, cx⟩
  intro gk2 f w hJ
  obtain ⟨i, hk, hs0, hs3, hall, cx⟩ := hJ
  refine wp_seq ?_
  refine wp_seq ?_
  refine wp_region_lit ?_
  refine s_val rfl rfl (v_move rfl hs3) ?_
  refine s_val rfl rfl (v_move rfl hs0) ?_
  refine s_val rfl rfl (v_lenString rfl rfl Tryz.underlying9) ?_
  refine s_val rfl rfl (v_cmp rfl rfl rfl rfl) ?_
  refine s_val rfl rfl (v_move rfl rfl) ?_
  refine s_gval rfl rfl rfl (by first | exact w_tt rfl | exact w_gt rfl) (fun hc => v_move rfl hs0) ?_
  refine s_gval rfl rfl rfl (by first | exact w_tt rfl | exact w_gt rfl) (fun hc => v_move rfl hs3) ?_
  refine s_gval rfl rfl rfl (by first | exact w_tt rfl | exact w_gt rfl) (fun hc => v_idxStr rfl (by first | exact gve hc rfl | exact gve (and_l hc) rfl | exact gve (and_l (and_l hc)) rfl | rfl) (by first | exact gve hc rfl | exact gve (and_l hc) rfl | exact gve (and_l (and_l hc)) rfl | rfl) Tryz.underlying9 (by first | omega | (simp only [Bool.and_eq_true, Bool.or_eq_true, Bool.and_eq_false_iff, Bool.or_eq_false_iff, Bool.not_eq_true', Bool.not_eq_false', decide_eq_true_eq, decide_eq_false_iff_not, beq_iff_eq, beq_eq_false_iff_ne, bne_iff_ne, bne_eq_false_iff_eq, ne_eq, Classical.not_not] at hc; omega)) (by first | omega | (simp only [Bool.and_eq_true, Bool.or_eq_true, Bool.and_eq_false_iff, Bool.or_eq_false_iff, Bool.not_eq_true', Bool.not_eq_false', decide_eq_true_eq, decide_eq_false_iff_not, beq_iff_eq, beq_eq_false_iff_ne, bne_iff_ne, bne_eq_false_iff_eq, ne_eq, Classical.not_not] at hc; omega))) ?_
  refine s_gval rfl rfl rfl (by first | exact w_tt rfl | exact w_gt rfl) (fun hc => v_cmp rfl (by first | exact gve hc rfl | exact gve (and_l hc) rfl | exact gve (and_l (and_l hc)) rfl | rfl) rfl rfl) ?_
  refine s_gval rfl rfl rfl (by first | exact w_tt rfl | exact w_gt rfl) (fun hc => v_move rfl (by first | exact gve hc rfl | exact gve (and_l hc) rfl | exact gve (and_l (and_l hc)) rfl | rfl)) ?_
  refine s_gval rfl rfl rfl (by first | exact w_tt rfl | exact w_gt rfl) (fun hc => v_move rfl hs0) ?_
  refine s_gval rfl rfl rfl (by first | exact w_tt rfl | exact w_gt rfl) (fun hc => v_move rfl hs3) ?_
  refine s_gval rfl rfl rfl (by first | exact w_tt rfl | exact w_gt rfl) (fun hc => v_idxStr rfl (by first | exact gve hc rfl | exact gve (and_l hc) rfl | exact gve (and_l (and_l hc)) rfl | rfl) (by first | exact gve hc rfl | exact gve (and_l hc) rfl | exact gve (and_l (and_l hc)) rfl | rfl) Tryz.underlying9 (by first | omega | (simp only [Bool.and_eq_true, Bool.or_eq_true, Bool.and_eq_false_iff, Bool.or_eq_false_iff, Bool.not_eq_true', Bool.not_eq_false', decide_eq_true_eq, decide_eq_false_iff_not, beq_iff_eq, beq_eq_false_iff_ne, bne_iff_ne, bne_eq_false_iff_eq, ne_eq, Classical.not_not] at hc; omega)) (by first | omega | (simp only [Bool.and_eq_true, Bool.or_eq_true, Bool.and_eq_false_iff, Bool.or_eq_false_iff, Bool.not_eq_true', Bool.not_eq_false', decide_eq_true_eq, decide_eq_false_iff_not, beq_iff_eq, beq_eq_false_iff_ne, bne_iff_ne, bne_eq_false_iff_eq, ne_eq, Classical.not_not] at hc; omega))) ?_
  refine s_gval rfl rfl rfl (by first | exact w_tt rfl | exact w_gt rfl) (fun hc => v_cmp rfl (by first | exact gve hc rfl | exact gve (and_l hc) rfl | exact gve (and_l (and_l hc)) rfl | rfl) rfl rfl) ?_
  refine s_gval rfl rfl rfl (by first | exact w_tt rfl | exact w_gt rfl) (fun hc => v_and_g hc rfl rfl rfl rfl) ?_
  refine s_gval rfl rfl rfl (by first | exact w_tt rfl | exact w_gt rfl) (fun hc => v_move rfl (by first | exact gve hc rfl | exact gve (and_l hc) rfl | exact gve (and_l (and_l hc)) rfl | rfl)) ?_
  refine s_gval rfl rfl rfl (by first | exact w_ff rfl | exact w_gf rfl) (fun hc => v_move rfl hs0) ?_
  refine s_gval rfl rfl rfl (by first | exact w_ff rfl | exact w_gf rfl) (fun hc => v_move rfl hs3) ?_
  refine s_gval rfl rfl rfl (by first | exact w_ff rfl | exact w_gf rfl) (fun hc => v_idxStr rfl (by first | exact gve hc rfl | exact gve (and_l hc) rfl | exact gve (and_l (and_l hc)) rfl | rfl) (by first | exact gve hc rfl | exact gve (and_l hc) rfl | exact gve (and_l (and_l hc)) rfl | rfl) Tryz.underlying9 (by first | omega | (simp only [Bool.and_eq_true, Bool.or_eq_true, Bool.and_eq_false_iff, Bool.or_eq_false_iff, Bool.not_eq_true', Bool.not_eq_false', decide_eq_true_eq, decide_eq_false_iff_not, beq_iff_eq, beq_eq_false_iff_ne, bne_iff_ne, bne_eq_false_iff_eq, ne_eq, Classical.not_not] at hc; omega)) (by first | omega | (simp only [Bool.and_eq_true, Bool.or_eq_true, Bool.and_eq_false_iff, Bool.or_eq_false_iff, Bool.not_eq_true', Bool.not_eq_false', decide_eq_true_eq, decide_eq_false_iff_not, beq_iff_eq, beq_eq_false_iff_ne, bne_iff_ne, bne_eq_false_iff_eq, ne_eq, Classical.not_not] at hc; omega))) ?_
  refine s_gval rfl rfl rfl (by first | exact w_ff rfl | exact w_gf rfl) (fun hc => v_cmp rfl (by first | exact gve hc rfl | exact gve (and_l hc) rfl | exact gve (and_l (and_l hc)) rfl | rfl) rfl rfl) ?_
  refine s_gval rfl rfl rfl (by first | exact w_ff rfl | exact w_gf rfl) (fun hc => v_move rfl (by first | exact gve hc rfl | exact gve (and_l hc) rfl | exact gve (and_l (and_l hc)) rfl | rfl)) ?_
  refine s_gval rfl rfl rfl (by first | exact w_tt rfl | exact w_gt rfl) (fun hc => v_move rfl hs0) ?_
  refine s_gval rfl rfl rfl (by first | exact w_tt rfl | exact w_gt rfl) (fun hc => v_move rfl hs3) ?_
  refine s_gval rfl rfl rfl (by first | exact w_tt rfl | exact w_gt rfl) (fun hc => v_idxStr rfl (by first | exact gve hc rfl | exact gve (and_l hc) rfl | exact gve (and_l (and_l hc)) rfl | rfl) (by first | exact gve hc rfl | exact gve (and_l hc) rfl | exact gve (and_l (and_l hc)) rfl | rfl) Tryz.underlying9 (by first | omega | (simp only [Bool.and_eq_true, Bool.or_eq_true, Bool.and_eq_false_iff, Bool.or_eq_false_iff, Bool.not_eq_true', Bool.not_eq_false', decide_eq_true_eq, decide_eq_false_iff_not, beq_iff_eq, beq_eq_false_iff_ne, bne_iff_ne, bne_eq_false_iff_eq, ne_eq, Classical.not_not] at hc; omega)) (by first | omega | (simp only [Bool.and_eq_true, Bool.or_eq_true, Bool.and_eq_false_iff, Bool.or_eq_false_iff, Bool.not_eq_true', Bool.not_eq_false', decide_eq_true_eq, decide_eq_false_iff_not, beq_iff_eq, beq_eq_false_iff_ne, bne_iff_ne, bne_eq_false_iff_eq, ne_eq, Classical.not_not] at hc; omega))) ?_
  refine s_gval rfl rfl rfl (by first | exact w_tt rfl | exact w_gt rfl) (fun hc => v_cmp rfl (by first | exact gve hc rfl | exact gve (and_l hc) rfl | exact gve (and_l (and_l hc)) rfl | rfl) rfl rfl) ?_
  refine s_gval rfl rfl rfl (by first | exact w_ff rfl | exact w_gf rfl) (fun hc => v_and_g hc rfl rfl rfl rfl) ?_
  refine s_gval rfl rfl rfl (by first | exact w_tt rfl | exact w_gt rfl) (fun hc => v_or_g hc rfl rfl rfl rfl) ?_
  refine s_gval rfl rfl rfl (by first | exact w_tt rfl | exact w_gt rfl) (fun hc => v_move rfl (by first | exact gve hc rfl | exact gve (and_l hc) rfl | exact gve (and_l (and_l hc)) rfl | rfl)) ?_
  refine s_gval rfl rfl rfl (by first | exact w_ff rfl | exact w_gf rfl) (fun hc => v_move rfl hs0) ?_
  refine s_gval rfl rfl rfl (by first | exact w_ff rfl | exact w_gf rfl) (fun hc => v_move rfl hs3) ?_
  refine s_gval rfl rfl rfl (by first | exact w_ff rfl | exact w_gf rfl) (fun hc => v_idxStr rfl (by first | exact gve hc rfl | exact gve (and_l hc) rfl | exact gve (and_l (and_l hc)) rfl | rfl) (by first | exact gve hc rfl | exact gve (and_l hc) rfl | exact gve (and_l (and_l hc)) rfl | rfl) Tryz.underlying9 (by first | omega | (simp only [Bool.and_eq_true, Bool.or_eq_true, Bool.and_eq_false_iff, Bool.or_eq_false_iff, Bool.not_eq_true', Bool.not_eq_false', decide_eq_true_eq, decide_eq_false_iff_not, beq_iff_eq, beq_eq_false_iff_ne, bne_iff_ne, bne_eq_false_iff_eq, ne_eq, Classical.not_not] at hc; omega)) (by first | omega | (simp only [Bool.and_eq_true, Bool.or_eq_true, Bool.and_eq_false_iff, Bool.or_eq_false_iff, Bool.not_eq_true', Bool.not_eq_false', decide_eq_true_eq, decide_eq_false_iff_not, beq_iff_eq, beq_eq_false_iff_ne, bne_iff_ne, bne_eq_false_iff_eq, ne_eq, Classical.not_not] at hc; omega))) ?_
  refine s_gval rfl rfl rfl (by first | exact w_ff rfl | exact w_gf rfl) (fun hc => v_cmp rfl (by first | exact gve hc rfl | exact gve (and_l hc) rfl | exact gve (and_l (and_l hc)) rfl | rfl) rfl rfl) ?_
  refine s_gval rfl rfl rfl (by first | exact w_tt rfl | exact w_gt rfl) (fun hc => v_or_g hc rfl rfl rfl rfl) ?_
  refine s_gval rfl rfl rfl (by first | exact w_tt rfl | exact w_gt rfl) (fun hc => v_move rfl (by first | exact gve hc rfl | exact gve (and_l hc) rfl | exact gve (and_l (and_l hc)) rfl | rfl)) ?_
  refine s_gval rfl rfl rfl (by first | exact w_ff rfl | exact w_gf rfl) (fun hc => v_move rfl hs3) ?_
  refine s_gval rfl rfl rfl (by first | exact w_ff rfl | exact w_gf rfl) (fun hc => v_cmp rfl (by first | exact gve hc rfl | exact gve (and_l hc) rfl | exact gve (and_l (and_l hc)) rfl | rfl) rfl rfl) ?_
  refine s_gval rfl rfl rfl (by first | exact w_ff rfl | exact w_gf rfl) (fun hc => v_move rfl (by first | exact gve hc rfl | exact gve (and_l hc) rfl | exact gve (and_l (and_l hc)) rfl | rfl)) ?_
  refine s_gval rfl rfl rfl (by first | exact w_tt rfl | exact w_gt rfl) (fun hc => v_move rfl hs0) ?_
  refine s_gval rfl rfl rfl (by first | exact w_tt rfl | exact w_gt rfl) (fun hc => v_move rfl hs3) ?_
  refine s_gval rfl rfl rfl (by first | exact w_tt rfl | exact w_gt rfl) (fun hc => v_idxStr rfl (by first | exact gve hc rfl | exact gve (and_l hc) rfl | exact gve (and_l (and_l hc)) rfl | rfl) (by first | exact gve hc rfl | exact gve (and_l hc) rfl | exact gve (and_l (and_l hc)) rfl | rfl) Tryz.underlying9 (by first | omega | (simp only [Bool.and_eq_true, Bool.or_eq_true, Bool.and_eq_false_iff, Bool.or_eq_false_iff, Bool.not_eq_true', Bool.not_eq_false', decide_eq_true_eq, decide_eq_false_iff_not, beq_iff_eq, beq_eq_false_iff_ne, bne_iff_ne, bne_eq_false_iff_eq, ne_eq, Classical.not_not] at hc; omega)) (by first | omega | (simp only [Bool.and_eq_true, Bool.or_eq_true, Bool.and_eq_false_iff, Bool.or_eq_false_iff, Bool.not_eq_true', Bool.not_eq_false', decide_eq_true_eq, decide_eq_false_iff_not, beq_iff_eq, beq_eq_false_iff_ne, bne_iff_ne, bne_eq_false_iff_eq, ne_eq, Classical.not_not] at hc; omega))) ?_
  refine s_gval rfl rfl rfl (by first | exact w_tt rfl | exact w_gt rfl) (fun hc => v_cmp rfl (by first | exact gve hc rfl | exact gve (and_l hc) rfl | exact gve (and_l (and_l hc)) rfl | rfl) rfl rfl) ?_
  refine s_gval rfl rfl rfl (by first | exact w_ff rfl | exact w_gf rfl) (fun hc => v_and_g hc rfl rfl rfl rfl) ?_
  refine s_gval rfl rfl rfl (by first | exact w_ff rfl | exact w_gf rfl) (fun hc => v_move rfl (by first | exact gve hc rfl | exact gve (and_l hc) rfl | exact gve (and_l (and_l hc)) rfl | rfl)) ?_
  refine s_gval rfl rfl rfl (by first | exact w_tt rfl | exact w_gt rfl) (fun hc => v_move rfl hs0) ?_
  refine s_gval rfl rfl rfl (by first | exact w_tt rfl | exact w_gt rfl) (fun hc => v_move rfl hs3) ?_
  refine s_gval rfl rfl rfl (by first | exact w_tt rfl | exact w_gt rfl) (fun hc => v_idxStr rfl (by first | exact gve hc rfl | exact gve (and_l hc) rfl | exact gve (and_l (and_l hc)) rfl | rfl) (by first | exact gve hc rfl | exact gve (and_l hc) rfl | exact gve (and_l (and_l hc)) rfl | rfl) Tryz.underlying9 (by first | omega | (simp only [Bool.and_eq_true, Bool.or_eq_true, Bool.and_eq_false_iff, Bool.or_eq_false_iff, Bool.not_eq_true', Bool.not_eq_false', decide_eq_true_eq, decide_eq_false_iff_not, beq_iff_eq, beq_eq_false_iff_ne, bne_iff_ne, bne_eq_false_iff_eq, ne_eq, Classical.not_not] at hc; omega)) (by first | omega | (simp only [Bool.and_eq_true, Bool.or_eq_true, Bool.and_eq_false_iff, Bool.or_eq_false_iff, Bool.not_eq_true', Bool.not_eq_false', decide_eq_true_eq, decide_eq_false_iff_not, beq_iff_eq, beq_eq_false_iff_ne, bne_iff_ne, bne_eq_false_iff_eq, ne_eq, Classical.not_not] at hc; omega))) ?_
  refine s_gval rfl rfl rfl (by first | exact w_tt rfl | exact w_gt rfl) (fun hc => v_cmp rfl (by first | exact gve hc rfl | exact gve (and_l hc) rfl | exact gve (and_l (and_l hc)) rfl | rfl) rfl rfl) ?_
  refine s_gval rfl rfl rfl (by first | exact w_ff rfl | exact w_gf rfl) (fun hc => v_and_g hc rfl rfl rfl rfl) ?_
  refine s_gval rfl rfl rfl (by first | exact w_tt rfl | exact w_gt rfl) (fun hc => v_or_g hc rfl rfl rfl rfl) ?_
  refine s_val rfl rfl (v_and rfl rfl rfl rfl) ?_
  refine wpList_nil ?_
  refine c_split rfl (fun hc53 => ?_) (fun hc53 => ?_)
  · skip
    try simp only [Bool.and_eq_true, Bool.or_eq_true, Bool.and_eq_false_iff, Bool.or_eq_false_iff, Bool.not_eq_true', Bool.not_eq_false', decide_eq_true_eq, decide_eq_false_iff_not, beq_iff_eq, beq_eq_false_iff_ne, bne_iff_ne, bne_eq_false_iff_eq, ne_eq, Classical.not_not] at hc53
    refine wp_skip ?_
    refine wp_block ?_
    refine wp_region_lit ?_
    refine s_val rfl rfl (v_move rfl hs3) ?_
    refine s_val rfl rfl (v_add rfl rfl rfl (by omega) (by omega)) ?_
    refine s_val rfl rfl (v_assign rfl rfl) ?_
    refine wpList_nil ?_
    refine ⟨gk2 - 1, _, by omega, rfl, i + 1, by omega, hs0, rfl, fun j hj => ?_, cx⟩
    rcases Nat.lt_or_ge j i with h | h
    · exact hall j h
    · obtain rfl : j = i := by omega
      unfold okN lowc digc
      omega
  · skip
    try simp only [Bool.and_eq_true, Bool.or_eq_true, Bool.and_eq_false_iff, Bool.or_eq_false_iff, Bool.not_eq_true', Bool.not_eq_false', decide_eq_true_eq, decide_eq_false_iff_not, beq_iff_eq, beq_eq_false_iff_ne, bne_iff_ne, bne_eq_false_iff_eq, ne_eq, Classical.not_not] at hc53
    refine wp_exit ?_
    refine wp_seq ?_
    refine wp_region_lit ?_
    refine s_val rfl rfl (v_move rfl hs3) ?_
    refine s_val rfl rfl (v_assign rfl rfl) ?_
    refine wpList_nil ?_
    refine wp_ret ?_
    refine ret_tmp Tryz.results93 rfl ?_
    have hf : folP s i := by
      refine ⟨by omega, hall, fun hlt h1 => ?_⟩
      unfold okN lowc digc at h1
      have hlt' : (i : Int) < (s.size : Int) := by omega
      simp only [hlt', not_true_eq_false, false_or] at hc53
      omega
    exact ⟨cx.ext, congrArg (fun z : Nat => Value.int .i64 (z : Int)) (folN_eq hf).symm⟩
set_option maxRecDepth 10000 in
theorem c94 (s : ByteArray) (w0 : World) (hs : s.size ≤ 1073741824) (ht : Tabs w0) : Fc Tryz.prog 94 [.string s] w0 (fun v _ => v = .string (bs ([34] ++ qtd s.data.toList ++ [34]))) := by
  refine ret_enter Tryz.func94 rfl Tryz.ntmps94 rfl ?_
  have cx := Ctx.start w0
  refine wp_seq ?_
  refine wp_region_lit ?_
  refine s_val rfl rfl (v_assign rfl rfl) ?_
  refine wpList_nil ?_
  refine wp_seq ?_
  refine wp_region_lit ?_
  refine s_bsl1 cx Tryz.underlying79 sz5 z5 rfl rfl rfl rfl rfl rfl rfl rfl ?_; intro b6 w cx hb6 hw6
  replace cx := Cxr.toRow (size := 1) (k := 1) cx rfl (by decide)
  refine s_val rfl rfl (v_assign rfl rfl) ?_
  refine wpList_nil ?_
  refine wp_seq ?_
  refine wp_seq ?_
  refine wp_region_lit ?_
  refine s_val rfl rfl (v_move rfl rfl) ?_
  refine s_val rfl rfl (v_lenString rfl rfl Tryz.underlying9) ?_
  refine s_val rfl rfl (v_move rfl rfl) ?_
  refine wpList_nil ?_
  refine wp_block ?_
  refine w_loop (fun k f w1 => ∃ (i : Nat) (v : Value), k + i = s.size ∧ f 0 = .string s ∧ f 8 = .int .i64 s.size ∧ f 9 = .int .i64 i ∧ f 3 = v ∧ Cxr w0 w1 [] [⟨5, 1, v, 1 + (qtd (s.data.toList.take i)).length, (34 :: qtd (s.data.toList.take i)).map bv⟩]) (s.size) ?_ ?_
  · skip
    exact ⟨0, _, by omega, rfl, rfl, rfl, rfl, cx.row_eq rfl rfl⟩
  intro gk3 f w hJ
  obtain ⟨i, v, hk, hs0, hs8, hs9, hs3, cx⟩ := hJ
  have hlq := qtd_len (s.data.toList.take i)
  have hlt := List.length_take_le i s.data.toList
  have hls : s.data.toList.length = s.size := by simp
  obtain ⟨c, hcc⟩ : ∃ c, s.data.toList.getD i 0 = c := ⟨_, rfl⟩
  have hbc : byteAt s (i : Int) = (c.toNat : Int) := by unfold byteAt; rw [Int.toNat_natCast, hcc]
  have hlx := hexs_len (byteAt s (i : Int)).toNat
  have hlx2 := hexs_len c.toNat
  refine wp_seq ?_
  refine wp_region_lit ?_
  refine s_val rfl rfl (v_cmp rfl hs9 hs8 rfl) ?_
  refine wpList_nil ?_
  refine wp_seq ?_
  refine c_split rfl (fun hc10 => ?_) (fun hc10 => ?_)
  · skip
    try simp only [Bool.and_eq_true, Bool.or_eq_true, Bool.and_eq_false_iff, Bool.or_eq_false_iff, Bool.not_eq_true', Bool.not_eq_false', decide_eq_true_eq, decide_eq_false_iff_not, beq_iff_eq, beq_eq_false_iff_ne, bne_iff_ne, bne_eq_false_iff_eq, ne_eq, Classical.not_not] at hc10
    refine wp_skip ?_
    refine wp_seq ?_
    refine wp_block ?_
    refine wp_seq ?_
    refine wp_region_lit ?_
    refine s_val rfl rfl (v_move rfl hs9) ?_
    refine s_val rfl rfl (v_assign rfl rfl) ?_
    refine wpList_nil ?_
    refine wp_seq ?_
    refine wp_region_lit ?_
    refine s_val rfl rfl (v_move rfl hs0) ?_
    refine s_val rfl rfl (v_move rfl rfl) ?_
    refine s_val rfl rfl (v_idxStr rfl rfl rfl Tryz.underlying9 (by omega) (by omega)) ?_
    refine s_val rfl rfl (v_assign rfl rfl) ?_
    refine wpList_nil ?_
    refine wp_block ?_
    refine wp_seq ?_
    refine wp_region_lit ?_
    refine s_val rfl rfl (v_move rfl rfl) ?_
    refine s_val rfl rfl (v_cmp rfl rfl rfl rfl) ?_
    refine s_val rfl rfl (v_move rfl rfl) ?_
    refine s_gval rfl rfl rfl (by first | exact w_ff rfl | exact w_gf rfl) (fun hc => v_move rfl (by first | exact gve hc rfl | exact gve (and_l hc) rfl | exact gve (and_l (and_l hc)) rfl | rfl)) ?_
    refine s_gval rfl rfl rfl (by first | exact w_ff rfl | exact w_gf rfl) (fun hc => v_cmp rfl (by first | exact gve hc rfl | exact gve (and_l hc) rfl | exact gve (and_l (and_l hc)) rfl | rfl) rfl rfl) ?_
    refine s_val rfl rfl (v_or rfl rfl rfl rfl) ?_
    refine s_val rfl rfl (v_assign rfl rfl) ?_
    refine wpList_nil ?_
    refine c_split rfl (fun hc19 => ?_) (fun hc19 => ?_)
    · skip
      simp only [Bool.or_eq_true, decide_eq_true_eq, beq_iff_eq] at hc19
      refine wp_region_lit ?_
      refine s_val rfl rfl (v_move rfl hs3) ?_
      refine s_val rfl rfl (v_move rfl rfl) ?_
      refine s_bsl2 cx Tryz.underlying79 sz5 z5 rfl rfl rfl rfl rfl rfl rfl ?_; intro b28 w cx hb28 hw28
      refine s_append cx ei5 Tryz.underlying79 rfl rfl rfl rfl rfl (cx.row 0 rfl) rfl rfl (by omega) ?_; intro v29 w cx hgr29
      replace cx := cx.drop 1
      refine s_val rfl rfl (v_assign rfl rfl) ?_
      refine wpList_nil ?_
      refine wp_region_lit ?_
      refine s_val rfl rfl (v_add rfl hs9 rfl (by omega) (by omega)) ?_
      refine s_val rfl rfl (v_move rfl rfl) ?_
      refine wpList_nil ?_
      have hsg := sgn_a (c := c) (by rw [hbc] at hc19; omega)
      have hq := qtd_take s i (by omega)
      rw [hcc, hsg] at hq
      refine ⟨gk3 - 1, _, by omega, rfl, i + 1, _, by omega, hs0, hs8, rfl, rfl, row_next cx hq ?_ ?_⟩
      · simp only [List.length_append, List.length_cons, List.length_nil, hbc, Int.toNat_natCast] <;> omega
      · exact congrArg (fun z => (34 :: qtd (s.data.toList.take i)).map bv ++ z) (show [Value.int .u8 92, Value.int .u8 (byteAt s (i : Int))] = _ by rw [hbc]; rfl)
    · skip
      simp only [Bool.or_eq_false_iff, decide_eq_false_iff_not, beq_eq_false_iff_ne] at hc19
      refine wp_seq ?_
      refine wp_region_lit ?_
      refine s_val rfl rfl (v_move rfl rfl) ?_
      refine s_val rfl rfl (v_cmp rfl rfl rfl rfl) ?_
      refine s_val rfl rfl (v_assign rfl rfl) ?_
      refine wpList_nil ?_
      refine c_split rfl (fun hc30 => ?_) (fun hc30 => ?_)
      · skip
        simp only [Bool.or_eq_true, decide_eq_true_eq, beq_iff_eq] at hc30
        refine wp_region_lit ?_
        refine s_val rfl rfl (v_move rfl hs3) ?_
        refine s_appendB cx ei8 Tryz.underlying79 Tryz.underlying9 rfl rfl rfl rfl rfl (by simp only [List.length_append, List.length_cons, List.length_nil]; omega) ?_; intro v34 w cx hgr34
        refine s_val rfl rfl (v_assign rfl rfl) ?_
        refine wpList_nil ?_
        refine wp_region_lit ?_
        refine s_val rfl rfl (v_add rfl hs9 rfl (by omega) (by omega)) ?_
        refine s_val rfl rfl (v_move rfl rfl) ?_
        refine wpList_nil ?_
        have hsg := sgn_10 (c := c) (by rw [hbc] at hc30; omega)
        have hq := qtd_take s i (by omega)
        rw [hcc, hsg] at hq
        refine ⟨gk3 - 1, _, by omega, rfl, i + 1, _, by omega, hs0, hs8, rfl, rfl, row_next cx hq ?_ ?_⟩
        · simp only [List.length_append, List.length_cons, List.length_nil, hbc, Int.toNat_natCast] <;> omega
        · exact congrArg (fun z => (34 :: qtd (s.data.toList.take i)).map bv ++ z) (rfl)
      · skip
        simp only [Bool.or_eq_false_iff, decide_eq_false_iff_not, beq_eq_false_iff_ne] at hc30
        refine wp_seq ?_
        refine wp_region_lit ?_
        refine s_val rfl rfl (v_move rfl rfl) ?_
        refine s_val rfl rfl (v_cmp rfl rfl rfl rfl) ?_
        refine s_val rfl rfl (v_assign rfl rfl) ?_
        refine wpList_nil ?_
        refine c_split rfl (fun hc35 => ?_) (fun hc35 => ?_)
        · skip
          simp only [Bool.or_eq_true, decide_eq_true_eq, beq_iff_eq] at hc35
          refine wp_region_lit ?_
          refine s_val rfl rfl (v_move rfl hs3) ?_
          refine s_appendB cx ei8 Tryz.underlying79 Tryz.underlying9 rfl rfl rfl rfl rfl (by simp only [List.length_append, List.length_cons, List.length_nil]; omega) ?_; intro v39 w cx hgr39
          refine s_val rfl rfl (v_assign rfl rfl) ?_
          refine wpList_nil ?_
          refine wp_region_lit ?_
          refine s_val rfl rfl (v_add rfl hs9 rfl (by omega) (by omega)) ?_
          refine s_val rfl rfl (v_move rfl rfl) ?_
          refine wpList_nil ?_
          have hsg := sgn_9 (c := c) (by rw [hbc] at hc35; omega)
          have hq := qtd_take s i (by omega)
          rw [hcc, hsg] at hq
          refine ⟨gk3 - 1, _, by omega, rfl, i + 1, _, by omega, hs0, hs8, rfl, rfl, row_next cx hq ?_ ?_⟩
          · simp only [List.length_append, List.length_cons, List.length_nil, hbc, Int.toNat_natCast] <;> omega
          · exact congrArg (fun z => (34 :: qtd (s.data.toList.take i)).map bv ++ z) (rfl)
        · skip
          simp only [Bool.or_eq_false_iff, decide_eq_false_iff_not, beq_eq_false_iff_ne] at hc35
          refine wp_seq ?_
          refine wp_region_lit ?_
          refine s_val rfl rfl (v_move rfl rfl) ?_
          refine s_val rfl rfl (v_cmp rfl rfl rfl rfl) ?_
          refine s_val rfl rfl (v_assign rfl rfl) ?_
          refine wpList_nil ?_
          refine c_split rfl (fun hc40 => ?_) (fun hc40 => ?_)
          · skip
            simp only [Bool.or_eq_true, decide_eq_true_eq, beq_iff_eq] at hc40
            refine wp_region_lit ?_
            refine s_val rfl rfl (v_move rfl hs3) ?_
            refine s_appendB cx ei8 Tryz.underlying79 Tryz.underlying9 rfl rfl rfl rfl rfl (by simp only [List.length_append, List.length_cons, List.length_nil]; omega) ?_; intro v44 w cx hgr44
            refine s_val rfl rfl (v_assign rfl rfl) ?_
            refine wpList_nil ?_
            refine wp_region_lit ?_
            refine s_val rfl rfl (v_add rfl hs9 rfl (by omega) (by omega)) ?_
            refine s_val rfl rfl (v_move rfl rfl) ?_
            refine wpList_nil ?_
            have hsg := sgn_13 (c := c) (by rw [hbc] at hc40; omega)
            have hq := qtd_take s i (by omega)
            rw [hcc, hsg] at hq
            refine ⟨gk3 - 1, _, by omega, rfl, i + 1, _, by omega, hs0, hs8, rfl, rfl, row_next cx hq ?_ ?_⟩
            · simp only [List.length_append, List.length_cons, List.length_nil, hbc, Int.toNat_natCast] <;> omega
            · exact congrArg (fun z => (34 :: qtd (s.data.toList.take i)).map bv ++ z) (rfl)
          · skip
            simp only [Bool.or_eq_false_iff, decide_eq_false_iff_not, beq_eq_false_iff_ne] at hc40
            refine wp_seq ?_
            refine wp_region_lit ?_
            refine s_val rfl rfl (v_move rfl rfl) ?_
            refine s_val rfl rfl (v_cmp rfl rfl rfl rfl) ?_
            refine s_val rfl rfl (v_move rfl rfl) ?_
            refine s_gval rfl rfl rfl (by first | exact w_ff rfl | exact w_gf rfl) (fun hc => v_move rfl (by first | exact gve hc rfl | exact gve (and_l hc) rfl | exact gve (and_l (and_l hc)) rfl | rfl)) ?_
            refine s_gval rfl rfl rfl (by first | exact w_ff rfl | exact w_gf rfl) (fun hc => v_cmp rfl (by first | exact gve hc rfl | exact gve (and_l hc) rfl | exact gve (and_l (and_l hc)) rfl | rfl) rfl rfl) ?_
            refine s_val rfl rfl (v_or rfl rfl rfl rfl) ?_
            refine s_val rfl rfl (v_assign rfl rfl) ?_
            refine wpList_nil ?_
            refine c_split rfl (fun hc45 => ?_) (fun hc45 => ?_)
            · skip
              simp only [Bool.or_eq_true, decide_eq_true_eq, beq_iff_eq] at hc45
              refine wp_region_lit ?_
              refine s_val rfl rfl (v_move rfl hs3) ?_
              refine s_val rfl rfl (v_move rfl rfl) ?_
              refine s_val rfl rfl (v_ofByte rfl rfl Tryz.underlying5 Tryz.underlying2 (byteAt_lo _ _) (byteAt_hi _ _)) ?_
              refine s_fn cx (c151 _ _ (ht.up cx.ext) (byteAt_lo _ _) (byteAt_hi _ _)) Tryz.func151 rfl rfl rfl rfl rfl rfl ?_; intro q55 w cx hw55 hp55
              subst hp55
              refine s_val rfl rfl (v_strAddB rfl rfl rfl (by simp only [List.length_append, List.length_cons, List.length_nil]; omega)) ?_
              refine s_val rfl rfl (v_strAddB rfl rfl rfl (by simp only [List.length_append, List.length_cons, List.length_nil]; omega)) ?_
              refine s_appendB cx ei8 Tryz.underlying79 Tryz.underlying9 rfl rfl rfl rfl rfl (by simp only [List.length_append, List.length_cons, List.length_nil]; omega) ?_; intro v58 w cx hgr58
              refine s_val rfl rfl (v_assign rfl rfl) ?_
              refine wpList_nil ?_
              refine wp_region_lit ?_
              refine s_val rfl rfl (v_add rfl hs9 rfl (by omega) (by omega)) ?_
              refine s_val rfl rfl (v_move rfl rfl) ?_
              refine wpList_nil ?_
              have hsg := sgn_u (c := c) (by rw [hbc] at hc30; omega) (by rw [hbc] at hc35; omega) (by rw [hbc] at hc40; omega) (by rw [hbc] at hc45; omega)
              have hq := qtd_take s i (by omega)
              rw [hcc, hsg] at hq
              refine ⟨gk3 - 1, _, by omega, rfl, i + 1, _, by omega, hs0, hs8, rfl, rfl, row_next cx hq ?_ ?_⟩
              · simp only [List.length_append, List.length_cons, List.length_nil, hbc, Int.toNat_natCast] <;> omega
              · exact congrArg (fun z => (34 :: qtd (s.data.toList.take i)).map bv ++ z) (congrArg (List.map bv) (show [92, 117, 123] ++ hexs (byteAt s (i : Int)).toNat ++ [125] = _ by rw [hbc, Int.toNat_natCast]))
            · skip
              simp only [Bool.or_eq_false_iff, decide_eq_false_iff_not, beq_eq_false_iff_ne] at hc45
              refine wp_region_lit ?_
              refine s_val rfl rfl (v_move rfl hs3) ?_
              refine s_val rfl rfl (v_move rfl rfl) ?_
              refine s_bsl1 cx Tryz.underlying79 sz5 z5 rfl rfl rfl rfl rfl rfl rfl rfl ?_; intro b17 w cx hb17 hw17
              refine s_append cx ei5 Tryz.underlying79 rfl rfl rfl rfl rfl (cx.row 0 rfl) rfl rfl (by omega) ?_; intro v18 w cx hgr18
              replace cx := cx.drop 1
              refine s_val rfl rfl (v_assign rfl rfl) ?_
              refine wpList_nil ?_
              refine wp_region_lit ?_
              refine s_val rfl rfl (v_add rfl hs9 rfl (by omega) (by omega)) ?_
              refine s_val rfl rfl (v_move rfl rfl) ?_
              refine wpList_nil ?_
              have hsg := sgn_o (c := c) (by rw [hbc] at hc19; omega) (by rw [hbc] at hc45; omega)
              have hq := qtd_take s i (by omega)
              rw [hcc, hsg] at hq
              refine ⟨gk3 - 1, _, by omega, rfl, i + 1, _, by omega, hs0, hs8, rfl, rfl, row_next cx hq ?_ ?_⟩
              · simp only [List.length_append, List.length_cons, List.length_nil, hbc, Int.toNat_natCast] <;> omega
              · exact congrArg (fun z => (34 :: qtd (s.data.toList.take i)).map bv ++ z) (show [Value.int .u8 (byteAt s (i : Int))] = _ by rw [hbc]; rfl)
  · skip
    try simp only [Bool.and_eq_true, Bool.or_eq_true, Bool.and_eq_false_iff, Bool.or_eq_false_iff, Bool.not_eq_true', Bool.not_eq_false', decide_eq_true_eq, decide_eq_false_iff_not, beq_iff_eq, beq_eq_false_iff_ne, bne_iff_ne, bne_eq_false_iff_eq, ne_eq, Classical.not_not] at hc10
    refine wp_exit ?_
    refine wp_seq ?_
    refine wp_region_lit ?_
    refine s_val rfl rfl (v_move rfl hs3) ?_
    refine s_bsl1 cx Tryz.underlying79 sz5 z5 rfl rfl rfl rfl rfl rfl rfl rfl ?_; intro b61 w cx hb61 hw61
    refine s_append cx ei5 Tryz.underlying79 rfl rfl rfl rfl rfl (cx.row 0 rfl) rfl rfl (by omega) ?_; intro v62 w cx hgr62
    replace cx := cx.drop 1
    have hq1 : i = s.size := by omega
    subst hq1
    rw [show s.data.toList.take s.size = s.data.toList from List.take_of_length_le (by simp)] at cx
    replace cx := row_next (q' := qtd s.data.toList ++ [34]) (sg := [34]) cx rfl (by simp only [List.length_cons, List.length_nil] <;> omega) rfl
    obtain ⟨g62, c62, rfl, hrow62⟩ := cx.bytes (l := 34 :: (qtd s.data.toList ++ [34])) (by simp only [List.length_append, List.length_cons, List.length_nil] <;> omega) rfl (by omega)
    refine s_val rfl rfl (v_b2s rfl Tryz.underlying79 Tryz.underlying5 Tryz.underlying9 (ns := (34 :: (qtd s.data.toList ++ [34])).map fun x : UInt8 => (x.toNat : Int)) (by rw [List.map_map]; exact hrow62) (by simp only [List.length_map, List.length_append, List.length_cons, List.length_nil] <;> omega) rfl) ?_
    refine s_val rfl rfl (v_assign rfl rfl) ?_
    refine wpList_nil ?_
    refine wp_ret ?_
    refine ret_tmp Tryz.results94 rfl ?_
    refine ⟨cx.ext, ?_⟩
    exact congrArg Value.string (strOf_bs (34 :: (qtd s.data.toList ++ [34])))
end Go.Proofs.YthiafbkolhnadaaGreatDoor
end
