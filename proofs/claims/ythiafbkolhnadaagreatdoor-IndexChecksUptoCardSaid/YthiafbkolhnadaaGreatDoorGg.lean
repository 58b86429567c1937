/-
  The program: names and quotation marks.
-/
import Derived.Test.YthiafbkolhnadaaGreatDoorGe
import Derived.Test.YthiafbkolhnadaaGreatDoorGh
import Derived.Test.YthiafbkolhnadaaGreatDoorPd
set_option linter.unusedSimpArgs false
set_option linter.unusedVariables false
namespace Go.Proofs.YthiafbkolhnadaaGreatDoor
open Go Go.Dk Go.RowKit Go.Lib
attribute [local irreducible] Go.wpList Go.Code.wp Go.bodyPost Go.wpStill
set_option maxRecDepth 10000 in
theorem c93 (s : ByteArray) (w0 : World) (hs : s.size ≤ 1073741824) : Fc Tryz.prog 93 [.string s] w0 (fun u _ => u = .int .i64 (folN s)) := by
  refine ret_enter Tryz.func93 rfl Tryz.ntmps93 rfl ?_
  have cx := Ctx.start w0
  refine wp_seq ?_
  refine wp_region_lit ?_
  refine s_val rfl rfl (v_assign rfl rfl) ?_
  refine wpList_nil ?_
  refine wp_seq ?_
  refine wp_region_lit ?_
  refine s_val rfl rfl (v_assign rfl rfl) ?_
  refine wpList_nil ?_
  refine wp_seq ?_
  refine wp_block ?_
  refine w_loop (fun k f w1 => ∃ i : Nat, k + i = s.size ∧ f 0 = .string s ∧ f 3 = .int .i64 i ∧ (∀ j : Nat, j < i → okN s j) ∧ Ctx w0 w1 []) (s.size) ?_ ?_
  · skip
    exact ⟨0, by omega, rfl, rfl, fun j h => by omega, cx⟩
  intro gk2 f w hJ
  obtain ⟨i, hk, hs0, hs3, hall, cx⟩ := hJ
  refine wp_seq ?_
  refine wp_seq ?_
  refine wp_region_lit ?_
  refine s_val rfl rfl (v_move rfl hs3) ?_
  refine s_val rfl rfl (v_move rfl hs0) ?_
  refine s_val rfl rfl (v_lenString rfl rfl Tryz.underlying9) ?_
  refine s_val rfl rfl (v_cmp rfl rfl rfl rfl) ?_
  refine s_val rfl rfl (v_move rfl rfl) ?_
  refine s_gval rfl rfl rfl (by first | exact w_tt rfl | exact w_gt rfl) (fun hc => v_move rfl hs0) ?_
  refine s_gval rfl rfl rfl (by first | exact w_tt rfl | exact w_gt rfl) (fun hc => v_move rfl hs3) ?_
  refine s_gval rfl rfl rfl (by first | exact w_tt rfl | exact w_gt rfl) (fun hc => v_idxStr rfl (by first | exact gve hc rfl | exact gve (and_l hc) rfl | exact gve (and_l (and_l hc)) rfl | rfl) (by first | exact gve hc rfl | exact gve (and_l hc) rfl | exact gve (and_l (and_l hc)) rfl | rfl) Tryz.underlying9 (by first | omega | (simp only [Bool.and_eq_true, Bool.or_eq_true, Bool.and_eq_false_iff, Bool.or_eq_false_iff, Bool.not_eq_true', Bool.not_eq_false', decide_eq_true_eq, decide_eq_false_iff_not, beq_iff_eq, beq_eq_false_iff_ne, bne_iff_ne, bne_eq_false_iff_eq, ne_eq, Classical.not_not] at hc; omega)) (by first | omega | (simp only [Bool.and_eq_true, Bool.or_eq_true, Bool.and_eq_false_iff, Bool.or_eq_false_iff, Bool.not_eq_true', Bool.not_eq_false', decide_eq_true_eq, decide_eq_false_iff_not, beq_iff_eq, beq_eq_false_iff_ne, bne_iff_ne, bne_eq_false_iff_eq, ne_eq, Classical.not_not] at hc; omega))) ?_
  refine s_gval rfl rfl rfl (by first | exact w_tt rfl | exact w_gt rfl) (fun hc => v_cmp rfl (by first | exact gve hc rfl | exact gve (and_l hc) rfl | exact gve (and_l (and_l hc)) rfl | rfl) rfl rfl) ?_
  refine s_gval rfl rfl rfl (by first | exact w_tt rfl | exact w_gt rfl) (fun hc => v_move rfl (by first | exact gve hc rfl | exact gve (and_l hc) rfl | exact gve (and_l (and_l hc)) rfl | rfl)) ?_
  refine s_gval rfl rfl rfl (by first | exact w_tt rfl | exact w_gt rfl) (fun hc => v_move rfl hs0) ?_
  refine s_gval rfl rfl rfl (by first | exact w_tt rfl | exact w_gt rfl) (fun hc => v_move rfl hs3) ?_
  refine s_gval rfl rfl rfl (by first | exact w_tt rfl | exact w_gt rfl) (fun hc => v_idxStr rfl (by first | exact gve hc rfl | exact gve (and_l hc) rfl | exact gve (and_l (and_l hc)) rfl | rfl) (by first | exact gve hc rfl | exact gve (and_l hc) rfl | exact gve (and_l (and_l hc)) rfl | rfl) Tryz.underlying9 (by first | omega | (simp only [Bool.and_eq_true, Bool.or_eq_true, Bool.and_eq_false_iff, Bool.or_eq_false_iff, Bool.not_eq_true', Bool.not_eq_false', decide_eq_true_eq, decide_eq_false_iff_not, beq_iff_eq, beq_eq_false_iff_ne, bne_iff_ne, bne_eq_false_iff_eq, ne_eq, Classical.not_not] at hc; omega)) (by first | omega | (simp only [Bool.and_eq_true, Bool.or_eq_true, Bool.and_eq_false_iff, Bool.or_eq_false_iff, Bool.not_eq_true', Bool.not_eq_false', decide_eq_true_eq, decide_eq_false_iff_not, beq_iff_eq, beq_eq_false_iff_ne, bne_iff_ne, bne_eq_false_iff_eq, ne_eq, Classical.not_not] at hc; omega))) ?_
  refine s_gval rfl rfl rfl (by first | exact w_tt rfl | exact w_gt rfl) (fun hc => v_cmp rfl (by first | exact gve hc rfl | exact gve (and_l hc) rfl | exact gve (and_l (and_l hc)) rfl | rfl) rfl rfl) ?_
  refine s_gval rfl rfl rfl (by first | exact w_tt rfl | exact w_gt rfl) (fun hc => v_and_g hc rfl rfl rfl rfl) ?_
  refine s_gval rfl rfl rfl (by first | exact w_tt rfl | exact w_gt rfl) (fun hc => v_move rfl (by first | exact gve hc rfl | exact gve (and_l hc) rfl | exact gve (and_l (and_l hc)) rfl | rfl)) ?_
  refine s_gval rfl rfl rfl (by first | exact w_ff rfl | exact w_gf rfl) (fun hc => v_move rfl hs0) ?_
  refine s_gval rfl rfl rfl (by first | exact w_ff rfl | exact w_gf rfl) (fun hc => v_move rfl hs3) ?_
  refine s_gval rfl rfl rfl (by first | exact w_ff rfl | exact w_gf rfl) (fun hc => v_idxStr rfl (by first | exact gve hc rfl | exact gve (and_l hc) rfl | exact gve (and_l (and_l hc)) rfl | rfl) (by first | exact gve hc rfl | exact gve (and_l hc) rfl | exact gve (and_l (and_l hc)) rfl | rfl) Tryz.underlying9 (by first | omega | (simp only [Bool.and_eq_true, Bool.or_eq_true, Bool.and_eq_false_iff, Bool.or_eq_false_iff, Bool.not_eq_true', Bool.not_eq_false', decide_eq_true_eq, decide_eq_false_iff_not, beq_iff_eq, beq_eq_false_iff_ne, bne_iff_ne, bne_eq_false_iff_eq, ne_eq, Classical.not_not] at hc; omega)) (by first | omega | (simp only [Bool.and_eq_true, Bool.or_eq_true, Bool.and_eq_false_iff, Bool.or_eq_false_iff, Bool.not_eq_true', Bool.not_eq_false', decide_eq_true_eq, decide_eq_false_iff_not, beq_iff_eq, beq_eq_false_iff_ne, bne_iff_ne, bne_eq_false_iff_eq, ne_eq, Classical.not_not] at hc; omega))) ?_
  refine s_gval rfl rfl rfl (by first | exact w_ff rfl | exact w_gf rfl) (fun hc => v_cmp rfl (by first | exact gve hc rfl | exact gve (and_l hc) rfl | exact gve (and_l (and_l hc)) rfl | rfl) rfl rfl) ?_
  refine s_gval rfl rfl rfl (by first | exact w_ff rfl | exact w_gf rfl) (fun hc => v_move rfl (by first | exact gve hc rfl | exact gve (and_l hc) rfl | exact gve (and_l (and_l hc)) rfl | rfl)) ?_
  refine s_gval rfl rfl rfl (by first | exact w_tt rfl | exact w_gt rfl) (fun hc => v_move rfl hs0) ?_
  refine s_gval rfl rfl rfl (by first | exact w_tt rfl | exact w_gt rfl) (fun hc => v_move rfl hs3) ?_
  refine s_gval rfl rfl rfl (by first | exact w_tt rfl | exact w_gt rfl) (fun hc => v_idxStr rfl (by first | exact gve hc rfl | exact gve (and_l hc) rfl | exact gve (and_l (and_l hc)) rfl | rfl) (by first | exact gve hc rfl | exact gve (and_l hc) rfl | exact gve (and_l (and_l hc)) rfl | rfl) Tryz.underlying9 (by first | omega | (simp only [Bool.and_eq_true, Bool.or_eq_true, Bool.and_eq_false_iff, Bool.or_eq_false_iff, Bool.not_eq_true', Bool.not_eq_false', decide_eq_true_eq, decide_eq_false_iff_not, beq_iff_eq, beq_eq_false_iff_ne, bne_iff_ne, bne_eq_false_iff_eq, ne_eq, Classical.not_not] at hc; omega)) (by first | omega | (simp only [Bool.and_eq_true, Bool.or_eq_true, Bool.and_eq_false_iff, Bool.or_eq_false_iff, Bool.not_eq_true', Bool.not_eq_false', decide_eq_true_eq, decide_eq_false_iff_not, beq_iff_eq, beq_eq_false_iff_ne, bne_iff_ne, bne_eq_false_iff_eq, ne_eq, Classical.not_not] at hc; omega))) ?_
  refine s_gval rfl rfl rfl (by first | exact w_tt rfl | exact w_gt rfl) (fun hc => v_cmp rfl (by first | exact gve hc rfl | exact gve (and_l hc) rfl | exact gve (and_l (and_l hc)) rfl | rfl) rfl rfl) ?_
  refine s_gval rfl rfl rfl (by first | exact w_ff rfl | exact w_gf rfl) (fun hc => v_and_g hc rfl rfl rfl rfl) ?_
  refine s_gval rfl rfl rfl (by first | exact w_tt rfl | exact w_gt rfl) (fun hc => v_or_g hc rfl rfl rfl rfl) ?_
  refine s_gval rfl rfl rfl (by first | exact w_tt rfl | exact w_gt rfl) (fun hc => v_move rfl (by first | exact gve hc rfl | exact gve (and_l hc) rfl | exact gve (and_l (and_l hc)) rfl | rfl)) ?_
  refine s_gval rfl rfl rfl (by first | exact w_ff rfl | exact w_gf rfl) (fun hc => v_move rfl hs0) ?_
  refine s_gval rfl rfl rfl (by first | exact w_ff rfl | exact w_gf rfl) (fun hc => v_move rfl hs3) ?_
  refine s_gval rfl rfl rfl (by first | exact w_ff rfl | exact w_gf rfl) (fun hc => v_idxStr rfl (by first | exact gve hc rfl | exact gve (and_l hc) rfl | exact gve (and_l (and_l hc)) rfl | rfl) (by first | exact gve hc rfl | exact gve (and_l hc) rfl | exact gve (and_l (and_l hc)) rfl | rfl) Tryz.underlying9 (by first | omega | (simp only [Bool.and_eq_true, Bool.or_eq_true, Bool.and_eq_false_iff, Bool.or_eq_false_iff, Bool.not_eq_true', Bool.not_eq_false', decide_eq_true_eq, decide_eq_false_iff_not, beq_iff_eq, beq_eq_false_iff_ne, bne_iff_ne, bne_eq_false_iff_eq, ne_eq, Classical.not_not] at hc; omega)) (by first | omega | (simp only [Bool.and_eq_true, Bool.or_eq_true, Bool.and_eq_false_iff, Bool.or_eq_false_iff, Bool.not_eq_true', Bool.not_eq_false', decide_eq_true_eq, decide_eq_false_iff_not, beq_iff_eq, beq_eq_false_iff_ne, bne_iff_ne, bne_eq_false_iff_eq, ne_eq, Classical.not_not] at hc; omega))) ?_
  refine s_gval rfl rfl rfl (by first | exact w_ff rfl | exact w_gf rfl) (fun hc => v_cmp rfl (by first | exact gve hc rfl | exact gve (and_l hc) rfl | exact gve (and_l (and_l hc)) rfl | rfl) rfl rfl) ?_
  refine s_gval rfl rfl rfl (by first | exact w_tt rfl | exact w_gt rfl) (fun hc => v_or_g hc rfl rfl rfl rfl) ?_
  refine s_gval rfl rfl rfl (by first | exact w_tt rfl | exact w_gt rfl) (fun hc => v_move rfl (by first | exact gve hc rfl | exact gve (and_l hc) rfl | exact gve (and_l (and_l hc)) rfl | rfl)) ?_
  refine s_gval rfl rfl rfl (by first | exact w_ff rfl | exact w_gf rfl) (fun hc => v_move rfl hs3) ?_
  refine s_gval rfl rfl rfl (by first | exact w_ff rfl | exact w_gf rfl) (fun hc => v_cmp rfl (by first | exact gve hc rfl | exact gve (and_l hc) rfl | exact gve (and_l (and_l hc)) rfl | rfl) rfl rfl) ?_
  refine s_gval rfl rfl rfl (by first | exact w_ff rfl | exact w_gf rfl) (fun hc => v_move rfl (by first | exact gve hc rfl | exact gve (and_l hc) rfl | exact gve (and_l (and_l hc)) rfl | rfl)) ?_
  refine s_gval rfl rfl rfl (by first | exact w_tt rfl | exact w_gt rfl) (fun hc => v_move rfl hs0) ?_
  refine s_gval rfl rfl rfl (by first | exact w_tt rfl | exact w_gt rfl) (fun hc => v_move rfl hs3) ?_
  refine s_gval rfl rfl rfl (by first | exact w_tt rfl | exact w_gt rfl) (fun hc => v_idxStr rfl (by first | exact gve hc rfl | exact gve (and_l hc) rfl | exact gve (and_l (and_l hc)) rfl | rfl) (by first | exact gve hc rfl | exact gve (and_l hc) rfl | exact gve (and_l (and_l hc)) rfl | rfl) Tryz.underlying9 (by first | omega | (simp only [Bool.and_eq_true, Bool.or_eq_true, Bool.and_eq_false_iff, Bool.or_eq_false_iff, Bool.not_eq_true', Bool.not_eq_false', decide_eq_true_eq, decide_eq_false_iff_not, beq_iff_eq, beq_eq_false_iff_ne, bne_iff_ne, bne_eq_false_iff_eq, ne_eq, Classical.not_not] at hc; omega)) (by first | omega | (simp only [Bool.and_eq_true, Bool.or_eq_true, Bool.and_eq_false_iff, Bool.or_eq_false_iff, Bool.not_eq_true', Bool.not_eq_false', decide_eq_true_eq, decide_eq_false_iff_not, beq_iff_eq, beq_eq_false_iff_ne, bne_iff_ne, bne_eq_false_iff_eq, ne_eq, Classical.not_not] at hc; omega))) ?_
  refine s_gval rfl rfl rfl (by first | exact w_tt rfl | exact w_gt rfl) (fun hc => v_cmp rfl (by first | exact gve hc rfl | exact gve (and_l hc) rfl | exact gve (and_l (and_l hc)) rfl | rfl) rfl rfl) ?_
  refine s_gval rfl rfl rfl (by first | exact w_ff rfl | exact w_gf rfl) (fun hc => v_and_g hc rfl rfl rfl rfl) ?_
  refine s_gval rfl rfl rfl (by first | exact w_ff rfl | exact w_gf rfl) (fun hc => v_move rfl (by first | exact gve hc rfl | exact gve (and_l hc) rfl | exact gve (and_l (and_l hc)) rfl | rfl)) ?_
  refine s_gval rfl rfl rfl (by first | exact w_tt rfl | exact w_gt rfl) (fun hc => v_move rfl hs0) ?_
  refine s_gval rfl rfl rfl (by first | exact w_tt rfl | exact w_gt rfl) (fun hc => v_move rfl hs3) ?_
  refine s_gval rfl rfl rfl (by first | exact w_tt rfl | exact w_gt rfl) (fun hc => v_idxStr rfl (by first | exact gve hc rfl | exact gve (and_l hc) rfl | exact gve (and_l (and_l hc)) rfl | rfl) (by first | exact gve hc rfl | exact gve (and_l hc) rfl | exact gve (and_l (and_l hc)) rfl | rfl) Tryz.underlying9 (by first | omega | (simp only [Bool.and_eq_true, Bool.or_eq_true, Bool.and_eq_false_iff, Bool.or_eq_false_iff, Bool.not_eq_true', Bool.not_eq_false', decide_eq_true_eq, decide_eq_false_iff_not, beq_iff_eq, beq_eq_false_iff_ne, bne_iff_ne, bne_eq_false_iff_eq, ne_eq, Classical.not_not] at hc; omega)) (by first | omega | (simp only [Bool.and_eq_true, Bool.or_eq_true, Bool.and_eq_false_iff, Bool.or_eq_false_iff, Bool.not_eq_true', Bool.not_eq_false', decide_eq_true_eq, decide_eq_false_iff_not, beq_iff_eq, beq_eq_false_iff_ne, bne_iff_ne, bne_eq_false_iff_eq, ne_eq, Classical.not_not] at hc; omega))) ?_
  refine s_gval rfl rfl rfl (by first | exact w_tt rfl | exact w_gt rfl) (fun hc => v_cmp rfl (by first | exact gve hc rfl | exact gve (and_l hc) rfl | exact gve (and_l (and_l hc)) rfl | rfl) rfl rfl) ?_
  refine s_gval rfl rfl rfl (by first | exact w_ff rfl | exact w_gf rfl) (fun hc => v_and_g hc rfl rfl rfl rfl) ?_
  refine s_gval rfl rfl rfl (by first | exact w_tt rfl | exact w_gt rfl) (fun hc => v_or_g hc rfl rfl rfl rfl) ?_
  refine s_val rfl rfl (v_and rfl rfl rfl rfl) ?_
  refine wpList_nil ?_
  refine c_split rfl (fun hc53 => ?_) (fun hc53 => ?_)
  · skip
    try simp only [Bool.and_eq_true, Bool.or_eq_true, Bool.and_eq_false_iff, Bool.or_eq_false_iff, Bool.not_eq_true', Bool.not_eq_false', decide_eq_true_eq, decide_eq_false_iff_not, beq_iff_eq, beq_eq_false_iff_ne, bne_iff_ne, bne_eq_false_iff_eq, ne_eq, Classical.not_not] at hc53
    refine wp_skip ?_
    refine wp_block ?_
    refine wp_region_lit ?_
    refine s_val rfl rfl (v_move rfl hs3) ?_
    refine s_val rfl rfl (v_add rfl rfl rfl (by omega) (by omega)) ?_
    refine s_val rfl rfl (v_assign rfl rfl) ?_
    refine wpList_nil ?_
    refine ⟨gk2 - 1, _, by omega, rfl, i + 1, by omega, hs0, rfl, fun j hj => ?_, cx⟩
    rcases Nat.lt_or_ge j i with h | h
    · exact hall j h
    · obtain rfl : j = i := by omega
      unfold okN lowc digc
      omega
  · skip
    try simp only [Bool.and_eq_true, Bool.or_eq_true, Bool.and_eq_false_iff, Bool.or_eq_false_iff, Bool.not_eq_true', Bool.not_eq_false', decide_eq_true_eq, decide_eq_false_iff_not, beq_iff_eq, beq_eq_false_iff_ne, bne_iff_ne, bne_eq_false_iff_eq, ne_eq, Classical.not_not] at hc53
    refine wp_exit ?_
    refine wp_seq ?_
    refine wp_region_lit ?_
    refine s_val rfl rfl (v_move rfl hs3) ?_
    refine s_val rfl rfl (v_assign rfl rfl) ?_
    refine wpList_nil ?_
    refine wp_ret ?_
    refine ret_tmp Tryz.results93 rfl ?_
    have hf : folP s i := by
      refine ⟨by omega, hall, fun hlt h1 => ?_⟩
      unfold okN lowc digc at h1
      have hlt' : (i : Int) < (s.size : Int) := by omega
      simp only [hlt', not_true_eq_false, false_or] at hc53
      omega
    exact ⟨cx.ext, congrArg (fun z : Nat => Value.int .i64 (z : Int)) (folN_eq hf).symm⟩

set_option maxRecDepth 10000 in
theorem c94 (s : ByteArray) (w0 : World) (hs : s.size ≤ 1073741824) (ht : Tabs w0) : Fc Tryz.prog 94 [.string s] w0 (fun v _ => v = .string (bs ([34] ++ qtd s.data.toList ++ [34]))) := by
  refine ret_enter Tryz.func94 rfl Tryz.ntmps94 rfl ?_
  have cx := Ctx.start w0
  refine wp_seq ?_
  refine wp_region_lit ?_
  refine s_val rfl rfl (v_assign rfl rfl) ?_
  refine wpList_nil ?_
  refine wp_seq ?_
  refine wp_region_lit ?_
  refine s_bsl1 cx Tryz.underlying79 sz5 z5 rfl rfl rfl rfl rfl rfl rfl rfl ?_; intro b6 w cx hb6 hw6
  replace cx := Cxr.toRow (size := 1) (k := 1) cx rfl (by decide)
  refine s_val rfl rfl (v_assign rfl rfl) ?_
  refine wpList_nil ?_
  refine wp_seq ?_
  refine wp_seq ?_
  refine wp_region_lit ?_
  refine s_val rfl rfl (v_move rfl rfl) ?_
  refine s_val rfl rfl (v_lenString rfl rfl Tryz.underlying9) ?_
  refine s_val rfl rfl (v_move rfl rfl) ?_
  refine wpList_nil ?_
  refine wp_block ?_
  refine w_loop (fun k f w1 => ∃ (i : Nat) (v : Value), k + i = s.size ∧ f 0 = .string s ∧ f 8 = .int .i64 s.size ∧ f 9 = .int .i64 i ∧ f 3 = v ∧ Cxr w0 w1 [] [⟨5, 1, v, 1 + (qtd (s.data.toList.take i)).length, (34 :: qtd (s.data.toList.take i)).map bv⟩]) (s.size) ?_ ?_
  · skip
    exact ⟨0, _, by omega, rfl, rfl, rfl, rfl, cx.row_eq rfl rfl⟩
  intro gk3 f w hJ
  obtain ⟨i, v, hk, hs0, hs8, hs9, hs3, cx⟩ := hJ
  have hlq := qtd_len (s.data.toList.take i)
  have hlt := List.length_take_le i s.data.toList
  have hls : s.data.toList.length = s.size := by simp
  obtain ⟨c, hcc⟩ : ∃ c, s.data.toList.getD i 0 = c := ⟨_, rfl⟩
  have hbc : byteAt s (i : Int) = (c.toNat : Int) := by unfold byteAt; rw [Int.toNat_natCast, hcc]
  have hlx := hexs_len (byteAt s (i : Int)).toNat
  have hlx2 := hexs_len c.toNat
  refine wp_seq ?_
  refine wp_region_lit ?_
  refine s_val rfl rfl (v_cmp rfl hs9 hs8 rfl) ?_
  refine wpList_nil ?_
  refine wp_seq ?_
  refine c_split rfl (fun hc10 => ?_) (fun hc10 => ?_)
  · skip
    try simp only [Bool.and_eq_true, Bool.or_eq_true, Bool.and_eq_false_iff, Bool.or_eq_false_iff, Bool.not_eq_true', Bool.not_eq_false', decide_eq_true_eq, decide_eq_false_iff_not, beq_iff_eq, beq_eq_false_iff_ne, bne_iff_ne, bne_eq_false_iff_eq, ne_eq, Classical.not_not] at hc10
    refine wp_skip ?_
    refine wp_seq ?_
    refine wp_block ?_
    refine wp_seq ?_
    refine wp_region_lit ?_
    refine s_val rfl rfl (v_move rfl hs9) ?_
    refine s_val rfl rfl (v_assign rfl rfl) ?_
    refine wpList_nil ?_
    refine wp_seq ?_
    refine wp_region_lit ?_
    refine s_val rfl rfl (v_move rfl hs0) ?_
    refine s_val rfl rfl (v_move rfl rfl) ?_
    refine s_val rfl rfl (v_idxStr rfl rfl rfl Tryz.underlying9 (by omega) (by omega)) ?_
    refine s_val rfl rfl (v_assign rfl rfl) ?_
    refine wpList_nil ?_
    refine wp_block ?_
    refine wp_seq ?_
    refine wp_region_lit ?_
    refine s_val rfl rfl (v_move rfl rfl) ?_
    refine s_val rfl rfl (v_cmp rfl rfl rfl rfl) ?_
    refine s_val rfl rfl (v_move rfl rfl) ?_
    refine s_gval rfl rfl rfl (by first | exact w_ff rfl | exact w_gf rfl) (fun hc => v_move rfl (by first | exact gve hc rfl | exact gve (and_l hc) rfl | exact gve (and_l (and_l hc)) rfl | rfl)) ?_
    refine s_gval rfl rfl rfl (by first | exact w_ff rfl | exact w_gf rfl) (fun hc => v_cmp rfl (by first | exact gve hc rfl | exact gve (and_l hc) rfl | exact gve (and_l (and_l hc)) rfl | rfl) rfl rfl) ?_
    refine s_val rfl rfl (v_or rfl rfl rfl rfl) ?_
    refine s_val rfl rfl (v_assign rfl rfl) ?_
    refine wpList_nil ?_
    refine c_split rfl (fun hc19 => ?_) (fun hc19 => ?_)
    · skip
      simp only [Bool.or_eq_true, decide_eq_true_eq, beq_iff_eq] at hc19
      refine wp_region_lit ?_
      refine s_val rfl rfl (v_move rfl hs3) ?_
      refine s_val rfl rfl (v_move rfl rfl) ?_
      refine s_bsl2 cx Tryz.underlying79 sz5 z5 rfl rfl rfl rfl rfl rfl rfl ?_; intro b28 w cx hb28 hw28
      refine s_append cx ei5 Tryz.underlying79 rfl rfl rfl rfl rfl (cx.row 0 rfl) rfl rfl (by omega) ?_; intro v29 w cx hgr29
      replace cx := cx.drop 1
      refine s_val rfl rfl (v_assign rfl rfl) ?_
      refine wpList_nil ?_
      refine wp_region_lit ?_
      refine s_val rfl rfl (v_add rfl hs9 rfl (by omega) (by omega)) ?_
      refine s_val rfl rfl (v_move rfl rfl) ?_
      refine wpList_nil ?_
      have hsg := sgn_a (c := c) (by rw [hbc] at hc19; omega)
      have hq := qtd_take s i (by omega)
      rw [hcc, hsg] at hq
      refine ⟨gk3 - 1, _, by omega, rfl, i + 1, _, by omega, hs0, hs8, rfl, rfl, row_next cx hq ?_ ?_⟩
      · simp only [List.length_append, List.length_cons, List.length_nil, hbc, Int.toNat_natCast] <;> omega
      · exact congrArg (fun z => (34 :: qtd (s.data.toList.take i)).map bv ++ z) (show [Value.int .u8 92, Value.int .u8 (byteAt s (i : Int))] = _ by rw [hbc]; rfl)
    · skip
      simp only [Bool.or_eq_false_iff, decide_eq_false_iff_not, beq_eq_false_iff_ne] at hc19
      refine wp_seq ?_
      refine wp_region_lit ?_
      refine s_val rfl rfl (v_move rfl rfl) ?_
      refine s_val rfl rfl (v_cmp rfl rfl rfl rfl) ?_
      refine s_val rfl rfl (v_assign rfl rfl) ?_
      refine wpList_nil ?_
      refine c_split rfl (fun hc30 => ?_) (fun hc30 => ?_)
      · skip
        simp only [Bool.or_eq_true, decide_eq_true_eq, beq_iff_eq] at hc30
        refine wp_region_lit ?_
        refine s_val rfl rfl (v_move rfl hs3) ?_
        refine s_appendB cx ei8 Tryz.underlying79 Tryz.underlying9 rfl rfl rfl rfl rfl (by simp only [List.length_append, List.length_cons, List.length_nil]; omega) ?_; intro v34 w cx hgr34
        refine s_val rfl rfl (v_assign rfl rfl) ?_
        refine wpList_nil ?_
        refine wp_region_lit ?_
        refine s_val rfl rfl (v_add rfl hs9 rfl (by omega) (by omega)) ?_
        refine s_val rfl rfl (v_move rfl rfl) ?_
        refine wpList_nil ?_
        have hsg := sgn_10 (c := c) (by rw [hbc] at hc30; omega)
        have hq := qtd_take s i (by omega)
        rw [hcc, hsg] at hq
        refine ⟨gk3 - 1, _, by omega, rfl, i + 1, _, by omega, hs0, hs8, rfl, rfl, row_next cx hq ?_ ?_⟩
        · simp only [List.length_append, List.length_cons, List.length_nil, hbc, Int.toNat_natCast] <;> omega
        · exact congrArg (fun z => (34 :: qtd (s.data.toList.take i)).map bv ++ z) (rfl)
      · skip
        simp only [Bool.or_eq_false_iff, decide_eq_false_iff_not, beq_eq_false_iff_ne] at hc30
        refine wp_seq ?_
        refine wp_region_lit ?_
        refine s_val rfl rfl (v_move rfl rfl) ?_
        refine s_val rfl rfl (v_cmp rfl rfl rfl rfl) ?_
        refine s_val rfl rfl (v_assign rfl rfl) ?_
        refine wpList_nil ?_
        refine c_split rfl (fun hc35 => ?_) (fun hc35 => ?_)
        · skip
          simp only [Bool.or_eq_true, decide_eq_true_eq, beq_iff_eq] at hc35
          refine wp_region_lit ?_
          refine s_val rfl rfl (v_move rfl hs3) ?_
          refine s_appendB cx ei8 Tryz.underlying79 Tryz.underlying9 rfl rfl rfl rfl rfl (by simp only [List.length_append, List.length_cons, List.length_nil]; omega) ?_; intro v39 w cx hgr39
          refine s_val rfl rfl (v_assign rfl rfl) ?_
          refine wpList_nil ?_
          refine wp_region_lit ?_
          refine s_val rfl rfl (v_add rfl hs9 rfl (by omega) (by omega)) ?_
          refine s_val rfl rfl (v_move rfl rfl) ?_
          refine wpList_nil ?_
          have hsg := sgn_9 (c := c) (by rw [hbc] at hc35; omega)
          have hq := qtd_take s i (by omega)
          rw [hcc, hsg] at hq
          refine ⟨gk3 - 1, _, by omega, rfl, i + 1, _, by omega, hs0, hs8, rfl, rfl, row_next cx hq ?_ ?_⟩
          · simp only [List.length_append, List.length_cons, List.length_nil, hbc, Int.toNat_natCast] <;> omega
          · exact congrArg (fun z => (34 :: qtd (s.data.toList.take i)).map bv ++ z) (rfl)
        · skip
          simp only [Bool.or_eq_false_iff, decide_eq_false_iff_not, beq_eq_false_iff_ne] at hc35
          refine wp_seq ?_
          refine wp_region_lit ?_
          refine s_val rfl rfl (v_move rfl rfl) ?_
          refine s_val rfl rfl (v_cmp rfl rfl rfl rfl) ?_
          refine s_val rfl rfl (v_assign rfl rfl) ?_
          refine wpList_nil ?_
          refine c_split rfl (fun hc40 => ?_) (fun hc40 => ?_)
          · skip
            simp only [Bool.or_eq_true, decide_eq_true_eq, beq_iff_eq] at hc40
            refine wp_region_lit ?_
            refine s_val rfl rfl (v_move rfl hs3) ?_
            refine s_appendB cx ei8 Tryz.underlying79 Tryz.underlying9 rfl rfl rfl rfl rfl (by simp only [List.length_append, List.length_cons, List.length_nil]; omega) ?_; intro v44 w cx hgr44
            refine s_val rfl rfl (v_assign rfl rfl) ?_
            refine wpList_nil ?_
            refine wp_region_lit ?_
            refine s_val rfl rfl (v_add rfl hs9 rfl (by omega) (by omega)) ?_
            refine s_val rfl rfl (v_move rfl rfl) ?_
            refine wpList_nil ?_
            have hsg := sgn_13 (c := c) (by rw [hbc] at hc40; omega)
            have hq := qtd_take s i (by omega)
            rw [hcc, hsg] at hq
            refine ⟨gk3 - 1, _, by omega, rfl, i + 1, _, by omega, hs0, hs8, rfl, rfl, row_next cx hq ?_ ?_⟩
            · simp only [List.length_append, List.length_cons, List.length_nil, hbc, Int.toNat_natCast] <;> omega
            · exact congrArg (fun z => (34 :: qtd (s.data.toList.take i)).map bv ++ z) (rfl)
          · skip
            simp only [Bool.or_eq_false_iff, decide_eq_false_iff_not, beq_eq_false_iff_ne] at hc40
            refine wp_seq ?_
            refine wp_region_lit ?_
            refine s_val rfl rfl (v_move rfl rfl) ?_
            refine s_val rfl rfl (v_cmp rfl rfl rfl rfl) ?_
            refine s_val rfl rfl (v_move rfl rfl) ?_
            refine s_gval rfl rfl rfl (by first | exact w_ff rfl | exact w_gf rfl) (fun hc => v_move rfl (by first | exact gve hc rfl | exact gve (and_l hc) rfl | exact gve (and_l (and_l hc)) rfl | rfl)) ?_
            refine s_gval rfl rfl rfl (by first | exact w_ff rfl | exact w_gf rfl) (fun hc => v_cmp rfl (by first | exact gve hc rfl | exact gve (and_l hc) rfl | exact gve (and_l (and_l hc)) rfl | rfl) rfl rfl) ?_
            refine s_val rfl rfl (v_or rfl rfl rfl rfl) ?_
            refine s_val rfl rfl (v_assign rfl rfl) ?_
            refine wpList_nil ?_
            refine c_split rfl (fun hc45 => ?_) (fun hc45 => ?_)
            · skip
              simp only [Bool.or_eq_true, decide_eq_true_eq, beq_iff_eq] at hc45
              refine wp_region_lit ?_
              refine s_val rfl rfl (v_move rfl hs3) ?_
              refine s_val rfl rfl (v_move rfl rfl) ?_
              refine s_val rfl rfl (v_ofByte rfl rfl Tryz.underlying5 Tryz.underlying2 (byteAt_lo _ _) (byteAt_hi _ _)) ?_
              refine s_fn cx (c151 _ _ (ht.up cx.ext) (byteAt_lo _ _) (byteAt_hi _ _)) Tryz.func151 rfl rfl rfl rfl rfl rfl ?_; intro q55 w cx hw55 hp55
              subst hp55
              refine s_val rfl rfl (v_strAddB rfl rfl rfl (by simp only [List.length_append, List.length_cons, List.length_nil]; omega)) ?_
              refine s_val rfl rfl (v_strAddB rfl rfl rfl (by simp only [List.length_append, List.length_cons, List.length_nil]; omega)) ?_
              refine s_appendB cx ei8 Tryz.underlying79 Tryz.underlying9 rfl rfl rfl rfl rfl (by simp only [List.length_append, List.length_cons, List.length_nil]; omega) ?_; intro v58 w cx hgr58
              refine s_val rfl rfl (v_assign rfl rfl) ?_
              refine wpList_nil ?_
              refine wp_region_lit ?_
              refine s_val rfl rfl (v_add rfl hs9 rfl (by omega) (by omega)) ?_
              refine s_val rfl rfl (v_move rfl rfl) ?_
              refine wpList_nil ?_
              have hsg := sgn_u (c := c) (by rw [hbc] at hc30; omega) (by rw [hbc] at hc35; omega) (by rw [hbc] at hc40; omega) (by rw [hbc] at hc45; omega)
              have hq := qtd_take s i (by omega)
              rw [hcc, hsg] at hq
              refine ⟨gk3 - 1, _, by omega, rfl, i + 1, _, by omega, hs0, hs8, rfl, rfl, row_next cx hq ?_ ?_⟩
              · simp only [List.length_append, List.length_cons, List.length_nil, hbc, Int.toNat_natCast] <;> omega
              · exact congrArg (fun z => (34 :: qtd (s.data.toList.take i)).map bv ++ z) (congrArg (List.map bv) (show [92, 117, 123] ++ hexs (byteAt s (i : Int)).toNat ++ [125] = _ by rw [hbc, Int.toNat_natCast]))
            · skip
              simp only [Bool.or_eq_false_iff, decide_eq_false_iff_not, beq_eq_false_iff_ne] at hc45
              refine wp_region_lit ?_
              refine s_val rfl rfl (v_move rfl hs3) ?_
              refine s_val rfl rfl (v_move rfl rfl) ?_
              refine s_bsl1 cx Tryz.underlying79 sz5 z5 rfl rfl rfl rfl rfl rfl rfl rfl ?_; intro b17 w cx hb17 hw17
              refine s_append cx ei5 Tryz.underlying79 rfl rfl rfl rfl rfl (cx.row 0 rfl) rfl rfl (by omega) ?_; intro v18 w cx hgr18
              replace cx := cx.drop 1
              refine s_val rfl rfl (v_assign rfl rfl) ?_
              refine wpList_nil ?_
              refine wp_region_lit ?_
              refine s_val rfl rfl (v_add rfl hs9 rfl (by omega) (by omega)) ?_
              refine s_val rfl rfl (v_move rfl rfl) ?_
              refine wpList_nil ?_
              have hsg := sgn_o (c := c) (by rw [hbc] at hc19; omega) (by rw [hbc] at hc45; omega)
              have hq := qtd_take s i (by omega)
              rw [hcc, hsg] at hq
              refine ⟨gk3 - 1, _, by omega, rfl, i + 1, _, by omega, hs0, hs8, rfl, rfl, row_next cx hq ?_ ?_⟩
              · simp only [List.length_append, List.length_cons, List.length_nil, hbc, Int.toNat_natCast] <;> omega
              · exact congrArg (fun z => (34 :: qtd (s.data.toList.take i)).map bv ++ z) (show [Value.int .u8 (byteAt s (i : Int))] = _ by rw [hbc]; rfl)
  · skip
    try simp only [Bool.and_eq_true, Bool.or_eq_true, Bool.and_eq_false_iff, Bool.or_eq_false_iff, Bool.not_eq_true', Bool.not_eq_false', decide_eq_true_eq, decide_eq_false_iff_not, beq_iff_eq, beq_eq_false_iff_ne, bne_iff_ne, bne_eq_false_iff_eq, ne_eq, Classical.not_not] at hc10
    refine wp_exit ?_
    refine wp_seq ?_
    refine wp_region_lit ?_
    refine s_val rfl rfl (v_move rfl hs3) ?_
    refine s_bsl1 cx Tryz.underlying79 sz5 z5 rfl rfl rfl rfl rfl rfl rfl rfl ?_; intro b61 w cx hb61 hw61
    refine s_append cx ei5 Tryz.underlying79 rfl rfl rfl rfl rfl (cx.row 0 rfl) rfl rfl (by omega) ?_; intro v62 w cx hgr62
    replace cx := cx.drop 1
    have hq1 : i = s.size := by omega
    subst hq1
    rw [show s.data.toList.take s.size = s.data.toList from List.take_of_length_le (by simp)] at cx
    replace cx := row_next (q' := qtd s.data.toList ++ [34]) (sg := [34]) cx rfl (by simp only [List.length_cons, List.length_nil] <;> omega) rfl
    obtain ⟨g62, c62, rfl, hrow62⟩ := cx.bytes (l := 34 :: (qtd s.data.toList ++ [34])) (by simp only [List.length_append, List.length_cons, List.length_nil] <;> omega) rfl (by omega)
    refine s_val rfl rfl (v_b2s rfl Tryz.underlying79 Tryz.underlying5 Tryz.underlying9 (ns := (34 :: (qtd s.data.toList ++ [34])).map fun x : UInt8 => (x.toNat : Int)) (by rw [List.map_map]; exact hrow62) (by simp only [List.length_map, List.length_append, List.length_cons, List.length_nil] <;> omega) rfl) ?_
    refine s_val rfl rfl (v_assign rfl rfl) ?_
    refine wpList_nil ?_
    refine wp_ret ?_
    refine ret_tmp Tryz.results94 rfl ?_
    refine ⟨cx.ext, ?_⟩
    exact congrArg Value.string (strOf_bs (34 :: (qtd s.data.toList ++ [34])))

end Go.Proofs.YthiafbkolhnadaaGreatDoor
