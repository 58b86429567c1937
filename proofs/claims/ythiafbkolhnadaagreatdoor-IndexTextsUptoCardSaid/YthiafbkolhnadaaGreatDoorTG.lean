/-
  Several texts in one: Ra, Rc, Gj, Gk, Gl, Rs
-/
import Derived.Test.YthiafbkolhnadaaGreatDoorTF
section
set_option linter.unusedSimpArgs false
set_option linter.unusedVariables false
namespace Go.Proofs.YthiafbkolhnadaaGreatDoor
open Go Go.Dk Go.RowKit Go.Lib
attribute [local irreducible] Go.wpList Go.Code.wp Go.bodyPost Go.wpStill Go.wpQuiet
theorem c165 (m : Int) (w : World) (h0 : 0 ≤ m) (h1 : m < 256) : Fc Tryz.prog 165 [.int .u8 m] w fun v _ => v = .string (bs (sgn (UInt8.ofNat m.toNat))) := of_allB sgn_k m h0 h1 w
theorem c239 (m : Int) (w : World) (h0 : 0 ≤ m) (h1 : m < 256) : Fc Tryz.prog 239 [.int .u8 m] w (IsB fun b => b = letB m.toNat) := (of_allB let_k m h0 h1 w).mono fun v w' _ h => ⟨_, h, rfl⟩
theorem str_w1 {m : Nat} (h : m < 10) : strOf [IntKind.u8.wrap ((48 : Int) + (m : Int))] = bs [UInt8.ofNat (48 + m)] := by
  rw [show IntKind.u8.wrap ((48 : Int) + (m : Int)) = ((UInt8.ofNat (48 + m)).toNat : Int) by rw [u8t (by omega)]; simp [IntKind.wrap, IntKind.signed, IntKind.bits]; omega]
  exact strOf_bs [UInt8.ofNat (48 + m)]
set_option maxHeartbeats 4000000 in
set_option maxRecDepth 10000 in
theorem c99 (n : Nat) (w0 : World) (hn : n ≤ 4611686018427387904) : Fc Tryz.prog 99 [.int .i64 n] w0 (fun v _ => v = .string (bs (dgs n))) := by
  refine ret_enter Tryz.func99 rfl Tryz.ntmps99 rfl ?_
  have cx := Ctx.start w0
  refine wp_seq ?_
  refine wp_region_lit ?_
  refine s_val rfl rfl (v_assign rfl rfl) ?_
  refine wpList_nil ?_
  refine wp_seq ?_
  refine wp_region_lit ?_
  refine s_val rfl rfl (v_assign rfl rfl) ?_
  refine wpList_nil ?_
  refine wp_seq ?_
  refine wp_block ?_
  refine w_loop (fun k f w1 => ∃ (m : Nat) (ac : List UInt8), k = m ∧ m ≤ n ∧ dgs m ++ ac = dgs n ∧ f 0 = .int .i64 m ∧ f 3 = .string (bs ac) ∧ Ctx w0 w1 []) (n) ?_ ?_
  · skip
    exact ⟨n, [], rfl, Nat.le_refl _, List.append_nil _, rfl, rfl, cx⟩
  intro gk2 f w hJ
  obtain ⟨m, ac, hk, hmn, hac, hs0, hs3, cx⟩ := hJ
  refine wp_seq ?_
  refine wp_seq ?_
  refine wp_region_lit ?_
  refine s_val rfl rfl (v_move rfl hs0) ?_
  refine s_val rfl rfl (v_cmp rfl rfl rfl rfl) ?_
  refine wpList_nil ?_
  refine c_split rfl (fun hc5 => ?_) (fun hc5 => ?_)
  · skip
    try simp only [Bool.and_eq_true, Bool.or_eq_true, Bool.and_eq_false_iff, Bool.or_eq_false_iff, Bool.not_eq_true', Bool.not_eq_false', decide_eq_true_eq, decide_eq_false_iff_not, beq_iff_eq, beq_eq_false_iff_ne, bne_iff_ne, bne_eq_false_iff_eq, ne_eq, Classical.not_not] at hc5
    refine wp_skip ?_
    refine wp_block ?_
    refine wp_seq ?_
    refine wp_region_lit ?_
    refine s_val rfl rfl (v_move rfl hs0) ?_
    refine s_val rfl rfl (v_rem (q := 10) rfl rfl rfl (by decide)) ?_
    refine s_val rfl rfl (v_add rfl rfl rfl (by omega) (by omega)) ?_
    refine s_val rfl rfl (v_conv rfl rfl Tryz.underlying3 Tryz.underlying5) ?_
    refine s_bsl1 cx Tryz.underlying79 sz5 z5 rfl rfl rfl rfl rfl rfl rfl rfl ?_; intro b10 w cx hb10 hw10
    refine s_val rfl rfl (v_b2s rfl Tryz.underlying79 Tryz.underlying5 Tryz.underlying9 (ns := [_]) (cx.row 0 rfl) rfl rfl) ?_
    refine s_val rfl rfl (v_move rfl hs3) ?_
    refine s_val rfl rfl (v_strAddB (a := [UInt8.ofNat (48 + m % 10)]) rfl (congrArg Value.string (str_w1 (by omega))) rfl (by have := dgs_le n hn; rw [← hac] at this; simp only [List.length_append, List.length_cons, List.length_nil] at this ⊢; omega)) ?_
    refine s_val rfl rfl (v_assign rfl rfl) ?_
    refine wpList_nil ?_
    refine wp_region_lit ?_
    refine s_val rfl rfl (v_move rfl hs0) ?_
    refine s_val rfl rfl (v_quo (q := 10) rfl rfl rfl (by omega) (by decide)) ?_
    refine s_val rfl rfl (v_assign rfl rfl) ?_
    refine wpList_nil ?_
    refine ⟨m / 10, _, by omega, rfl, m / 10, UInt8.ofNat (48 + m % 10) :: ac, rfl, by omega, ?_, rfl, rfl, Ctx.sub0 cx⟩
    rw [← hac, dgs_pos m (by omega), List.append_assoc]
    rfl
  · skip
    try simp only [Bool.and_eq_true, Bool.or_eq_true, Bool.and_eq_false_iff, Bool.or_eq_false_iff, Bool.not_eq_true', Bool.not_eq_false', decide_eq_true_eq, decide_eq_false_iff_not, beq_iff_eq, beq_eq_false_iff_ne, bne_iff_ne, bne_eq_false_iff_eq, ne_eq, Classical.not_not] at hc5
    refine wp_exit ?_
    refine wp_seq ?_
    refine wp_region_lit ?_
    refine s_val rfl rfl (v_move rfl hs3) ?_
    refine s_val rfl rfl (v_assign rfl rfl) ?_
    refine wpList_nil ?_
    refine wp_ret ?_
    refine ret_tmp Tryz.results99 rfl ?_
    have hz : m = 0 := by omega
    subst hz
    refine ⟨cx.ext, congrArg (fun l => Value.string (bs l)) ?_⟩
    exact hac
theorem c99i (n : Int) (w0 : World) (h0 : 0 ≤ n) (hn : n ≤ 4611686018427387904) : Fc Tryz.prog 99 [.int .i64 n] w0 (fun v _ => v = .string (bs (dgs n.toNat))) := by
  obtain ⟨k, rfl⟩ := Int.eq_ofNat_of_zero_le h0
  exact c99 k w0 (by omega)
set_option maxHeartbeats 4000000 in
set_option maxRecDepth 10000 in
theorem c50 (n : Int) (w0 : World) (h0 : 0 ≤ n) (hn : n ≤ 4611686018427387904) : Fc Tryz.prog 50 [.int .i64 n] w0 (fun v _ => v = .string (bs (itoa n))) := by
  refine ret_enter Tryz.func50 rfl Tryz.ntmps50 rfl ?_
  have cx := Ctx.start w0
  refine wp_seq ?_
  refine wp_region_lit ?_
  refine s_val rfl rfl (v_assign rfl rfl) ?_
  refine wpList_nil ?_
  refine wp_seq ?_
  refine wp_seq ?_
  refine wp_region_lit ?_
  refine s_val rfl rfl (v_move rfl rfl) ?_
  refine s_val rfl rfl (v_cmp rfl rfl rfl rfl) ?_
  refine wpList_nil ?_
  refine c_split rfl (fun hc4 => ?_) (fun hc4 => ?_)
  · skip
    try simp only [Bool.and_eq_true, Bool.or_eq_true, Bool.and_eq_false_iff, Bool.or_eq_false_iff, Bool.not_eq_true', Bool.not_eq_false', decide_eq_true_eq, decide_eq_false_iff_not, beq_iff_eq, beq_eq_false_iff_ne, bne_iff_ne, bne_eq_false_iff_eq, ne_eq, Classical.not_not] at hc4
    refine wp_seq ?_
    refine wp_region_lit ?_
    refine s_val rfl rfl (v_assign rfl rfl) ?_
    refine wpList_nil ?_
    refine wp_ret ?_
    refine ret_tmp Tryz.results50 rfl ?_
    subst hc4
    refine ⟨cx.ext, congrArg (fun l => Value.string (bs l)) ?_⟩
    rw [show (0 : Int) = ((0 : Nat) : Int) from rfl, itoa_nat]
    unfold decDigits
    rw [dif_pos (by decide)]
    rfl
  · skip
    try simp only [Bool.and_eq_true, Bool.or_eq_true, Bool.and_eq_false_iff, Bool.or_eq_false_iff, Bool.not_eq_true', Bool.not_eq_false', decide_eq_true_eq, decide_eq_false_iff_not, beq_iff_eq, beq_eq_false_iff_ne, bne_iff_ne, bne_eq_false_iff_eq, ne_eq, Classical.not_not] at hc4
    refine wp_skip ?_
    refine wp_seq ?_
    refine wp_region_lit ?_
    refine s_val rfl rfl (v_move rfl rfl) ?_
    refine s_fn cx (c99i _ _ (by omega) (by omega)) Tryz.func99 rfl rfl rfl rfl rfl rfl ?_; intro q6 w cx hw6 hp6
    subst hp6
    refine s_val rfl rfl (v_assign rfl rfl) ?_
    refine wpList_nil ?_
    refine wp_ret ?_
    refine ret_tmp Tryz.results50 rfl ?_
    refine ⟨cx.ext, congrArg (fun l => Value.string (bs l)) ?_⟩
    have h1 : n = ((n.toNat : Nat) : Int) := by omega
    conv => rhs; rw [h1, itoa_nat]
    unfold dgs
    rw [if_neg (by omega)]
set_option maxHeartbeats 4000000 in
set_option maxRecDepth 10000 in
theorem c164 (s : ByteArray) (w0 : World) (hs : s.size ≤ 1073741824) : Fc Tryz.prog 164 [.string s] w0 (IsB fun b => b = true ↔ isNm s) := by
  refine ret_enter Tryz.func164 rfl Tryz.ntmps164 rfl ?_
  have cx := Ctx.start w0
  refine wp_seq ?_
  refine wp_region_lit ?_
  refine s_val rfl rfl (v_assign rfl rfl) ?_
  refine wpList_nil ?_
  refine wp_seq ?_
  refine wp_seq ?_
  refine wp_region_lit ?_
  refine s_val rfl rfl (v_assign rfl rfl) ?_
  refine wpList_nil ?_
  refine wp_block ?_
  refine w_loop (fun k f w1 => ∃ i : Nat, k + i = s.size ∧ f 0 = .string s ∧ f 3 = .int .i64 i ∧ (∀ j : Nat, j < i → lowc (byteAt s j) ∨ digc (byteAt s j)) ∧ Ctx w0 w1 []) (s.size) ?_ ?_
  · skip
    exact ⟨0, by omega, rfl, rfl, fun j h => by omega, cx⟩
  intro gk2 f w hJ
  obtain ⟨i, hk, hs0, hs3, hall, cx⟩ := hJ
  refine wp_seq ?_
  refine wp_seq ?_
  refine wp_region_lit ?_
  refine s_val rfl rfl (v_move rfl hs3) ?_
  refine s_val rfl rfl (v_move rfl hs0) ?_
  refine s_val rfl rfl (v_lenString rfl rfl Tryz.underlying9) ?_
  refine s_val rfl rfl (v_cmp rfl rfl rfl rfl) ?_
  refine wpList_nil ?_
  refine c_split rfl (fun hc7 => ?_) (fun hc7 => ?_)
  · skip
    try simp only [Bool.and_eq_true, Bool.or_eq_true, Bool.and_eq_false_iff, Bool.or_eq_false_iff, Bool.not_eq_true', Bool.not_eq_false', decide_eq_true_eq, decide_eq_false_iff_not, beq_iff_eq, beq_eq_false_iff_ne, bne_iff_ne, bne_eq_false_iff_eq, ne_eq, Classical.not_not] at hc7
    refine wp_skip ?_
    refine wp_seq ?_
    refine wp_block ?_
    refine wp_seq ?_
    refine wp_region_lit ?_
    refine s_val rfl rfl (v_move rfl hs0) ?_
    refine s_val rfl rfl (v_move rfl hs3) ?_
    refine s_val rfl rfl (v_idxStr rfl rfl rfl Tryz.underlying9 (by omega) (by omega)) ?_
    refine s_fnB cx (c239 _ _ (byteAt_lo _ _) (byteAt_hi _ _)) Tryz.func239 rfl rfl rfl rfl rfl rfl ?_; intro q13 w cx hw13 hp13
    refine s_val rfl rfl (v_not rfl rfl) ?_
    refine wpList_nil ?_
    refine c_split rfl (fun hc14 => ?_) (fun hc14 => ?_)
    · skip
      try simp only [Bool.and_eq_true, Bool.or_eq_true, Bool.and_eq_false_iff, Bool.or_eq_false_iff, Bool.not_eq_true', Bool.not_eq_false', decide_eq_true_eq, decide_eq_false_iff_not, beq_iff_eq, beq_eq_false_iff_ne, bne_iff_ne, bne_eq_false_iff_eq, ne_eq, Classical.not_not] at hc14
      refine wp_seq ?_
      refine wp_region_lit ?_
      refine s_val rfl rfl (v_assign rfl rfl) ?_
      refine wpList_nil ?_
      refine wp_ret ?_
      refine ret_tmp Tryz.results164 rfl ?_
      refine ⟨cx.ext, _, rfl, (fun h => by cases h), fun h => ?_⟩
      have h2 := ((isNm_iff s).1 h).1 i (by omega)
      rw [hp13, (letB_iff _).2 (by rw [Int.toNat_of_nonneg (byteAt_lo _ _)]; exact h2)] at hc14
      cases hc14
    · skip
      try simp only [Bool.and_eq_true, Bool.or_eq_true, Bool.and_eq_false_iff, Bool.or_eq_false_iff, Bool.not_eq_true', Bool.not_eq_false', decide_eq_true_eq, decide_eq_false_iff_not, beq_iff_eq, beq_eq_false_iff_ne, bne_iff_ne, bne_eq_false_iff_eq, ne_eq, Classical.not_not] at hc14
      have hlt : lowc (byteAt s i) ∨ digc (byteAt s i) := by
        have h1 : letB (byteAt s i).toNat = true := by rw [← hp13]; simpa using hc14
        have := (letB_iff _).1 h1
        rwa [Int.toNat_of_nonneg (byteAt_lo _ _)] at this
      refine wp_skip ?_
      refine wp_region_lit ?_
      refine s_val rfl rfl (v_move rfl hs3) ?_
      refine s_val rfl rfl (v_add rfl rfl rfl (by omega) (by omega)) ?_
      refine s_val rfl rfl (v_assign rfl rfl) ?_
      refine wpList_nil ?_
      refine ⟨gk2 - 1, _, by omega, rfl, i + 1, by omega, hs0, rfl, fun j hj => ?_, cx⟩
      rcases Nat.lt_or_ge j i with h | h
      · exact hall j h
      · obtain rfl : j = i := by omega
        exact hlt
  · skip
    try simp only [Bool.and_eq_true, Bool.or_eq_true, Bool.and_eq_false_iff, Bool.or_eq_false_iff, Bool.not_eq_true', Bool.not_eq_false', decide_eq_true_eq, decide_eq_false_iff_not, beq_iff_eq, beq_eq_false_iff_ne, bne_iff_ne, bne_eq_false_iff_eq, ne_eq, Classical.not_not] at hc7
    refine wp_exit ?_
    refine wp_seq ?_
    refine wp_region_lit ?_
    refine s_val rfl rfl (v_move rfl hs0) ?_
    refine s_val rfl rfl (v_lenString rfl rfl Tryz.underlying9) ?_
    refine s_val rfl rfl (v_cmp rfl rfl rfl rfl) ?_
    refine s_val rfl rfl (v_move rfl rfl) ?_
    refine s_gval rfl rfl rfl (by first | exact w_tt rfl | exact w_gt rfl) (fun hc => v_move rfl hs0) ?_
    refine s_gval rfl rfl rfl (by first | exact w_tt rfl | exact w_gt rfl) (fun hc => v_idxStr rfl (by first | exact gve hc rfl | exact gve (and_l hc) rfl | exact gve (and_l (and_l hc)) rfl | rfl) rfl Tryz.underlying9 (by first | omega | (simp only [Bool.and_eq_true, Bool.or_eq_true, Bool.and_eq_false_iff, Bool.or_eq_false_iff, Bool.not_eq_true', Bool.not_eq_false', decide_eq_true_eq, decide_eq_false_iff_not, beq_iff_eq, beq_eq_false_iff_ne, bne_iff_ne, bne_eq_false_iff_eq, ne_eq, Classical.not_not] at hc; omega)) (by first | omega | (simp only [Bool.and_eq_true, Bool.or_eq_true, Bool.and_eq_false_iff, Bool.or_eq_false_iff, Bool.not_eq_true', Bool.not_eq_false', decide_eq_true_eq, decide_eq_false_iff_not, beq_iff_eq, beq_eq_false_iff_ne, bne_iff_ne, bne_eq_false_iff_eq, ne_eq, Classical.not_not] at hc; omega))) ?_
    refine s_gval rfl rfl rfl (by first | exact w_tt rfl | exact w_gt rfl) (fun hc => v_cmp rfl (by first | exact gve hc rfl | exact gve (and_l hc) rfl | exact gve (and_l (and_l hc)) rfl | rfl) rfl rfl) ?_
    refine s_gval rfl rfl rfl (by first | exact w_tt rfl | exact w_gt rfl) (fun hc => v_move rfl (by first | exact gve hc rfl | exact gve (and_l hc) rfl | exact gve (and_l (and_l hc)) rfl | rfl)) ?_
    refine s_gval rfl rfl rfl (by first | exact w_ff rfl | exact w_gf rfl) (fun hc => v_move rfl hs0) ?_
    refine s_gval rfl rfl rfl (by first | exact w_ff rfl | exact w_gf rfl) (fun hc => v_idxStr rfl (by first | exact gve hc rfl | exact gve (and_l hc) rfl | exact gve (and_l (and_l hc)) rfl | rfl) rfl Tryz.underlying9 (by first | omega | (simp only [Bool.and_eq_true, Bool.or_eq_true, Bool.and_eq_false_iff, Bool.or_eq_false_iff, Bool.not_eq_true', Bool.not_eq_false', decide_eq_true_eq, decide_eq_false_iff_not, beq_iff_eq, beq_eq_false_iff_ne, bne_iff_ne, bne_eq_false_iff_eq, ne_eq, Classical.not_not] at hc; omega)) (by first | omega | (simp only [Bool.and_eq_true, Bool.or_eq_true, Bool.and_eq_false_iff, Bool.or_eq_false_iff, Bool.not_eq_true', Bool.not_eq_false', decide_eq_true_eq, decide_eq_false_iff_not, beq_iff_eq, beq_eq_false_iff_ne, bne_iff_ne, bne_eq_false_iff_eq, ne_eq, Classical.not_not] at hc; omega))) ?_
    refine s_gval rfl rfl rfl (by first | exact w_ff rfl | exact w_gf rfl) (fun hc => v_cmp rfl (by first | exact gve hc rfl | exact gve (and_l hc) rfl | exact gve (and_l (and_l hc)) rfl | rfl) rfl rfl) ?_
    refine s_gval rfl rfl rfl (by first | exact w_tt rfl | exact w_gt rfl) (fun hc => v_or_g hc rfl rfl rfl rfl) ?_
    refine s_val rfl rfl (v_and rfl rfl rfl rfl) ?_
    refine s_val rfl rfl (v_assign rfl rfl) ?_
    refine wpList_nil ?_
    refine wp_ret ?_
    refine ret_tmp Tryz.results164 rfl ?_
    refine ⟨cx.ext, _, rfl, ?_⟩
    rw [isNm_iff]
    have hall' : ∀ j : Nat, j < s.size → lowc (byteAt s j) ∨ digc (byteAt s j) := fun j hj => hall j (by omega)
    have hlo := byteAt_lo s (0 : Nat)
    simp only [Bool.and_eq_true, Bool.or_eq_true, decide_eq_true_eq]
    constructor
    · rintro ⟨h1, h2⟩
      exact ⟨hall', by omega, by unfold digc; rcases h2 with h2 | h2 <;> (have h3 : byteAt s (0 : Nat) < 48 ∨ 57 < byteAt s (0 : Nat) := by first | exact .inl h2 | exact .inr h2) <;> omega⟩
    · rintro ⟨_, h1, h2⟩
      refine ⟨by omega, ?_⟩
      unfold digc at h2
      have h3 : byteAt s (0 : Nat) < 48 ∨ 57 < byteAt s (0 : Nat) := by omega
      exact h3
set_option maxHeartbeats 4000000 in
set_option maxRecDepth 10000 in
theorem c102 (x : Stp) (w0 : World) (hg : GdS x) : Fc Tryz.prog 102 [.agg (srow x).toArray] w0 (fun v _ => v = .string (bs (stpT x))) := by
  refine ret_enter Tryz.func102 rfl Tryz.ntmps102 rfl ?_
  have cx := Ctx.start w0
  refine wp_seq ?_
  refine wp_region_lit ?_
  refine s_box cx rfl rfl rfl rfl rfl ?_; intro b1 w cx hb1 hw1
  refine s_val rfl rfl (v_assign rfl rfl) ?_
  refine wpList_nil ?_
  refine wp_seq ?_
  refine wp_seq ?_
  refine wp_region_lit ?_
  refine s_val rfl rfl (v_fa fa107_0 rfl rfl) ?_
  refine s_val rfl rfl (v_load1 rfl rfl Tryz.underlying4 rfl (cx.cell 0 rfl rfl)) ?_
  refine wpList_nil ?_
  refine c_split rfl (fun hc6 => ?_) (fun hc6 => ?_)
  · skip
    try simp only [Bool.and_eq_true, Bool.or_eq_true, Bool.and_eq_false_iff, Bool.or_eq_false_iff, Bool.not_eq_true', Bool.not_eq_false', decide_eq_true_eq, decide_eq_false_iff_not, beq_iff_eq, beq_eq_false_iff_ne, bne_iff_ne, bne_eq_false_iff_eq, ne_eq, Classical.not_not] at hc6
    have hix := hg.1 hc6
    have hil := itoa_le hix.1 (by omega)
    refine wp_seq ?_
    refine wp_region_lit ?_
    refine s_val rfl rfl (v_fa fa107_2 rfl rfl) ?_
    refine s_val rfl rfl (v_load1 rfl rfl Tryz.underlying3 rfl (cx.cell 0 rfl rfl)) ?_
    refine s_fn cx (c50 _ _ (by omega) (by omega)) Tryz.func50 rfl rfl rfl rfl rfl rfl ?_; intro q9 w cx hw9 hp9
    subst hp9
    refine s_val rfl rfl (v_strAddB (a := [91]) (b := itoa x.index) rfl rfl rfl (by simp only [List.length_append, List.length_cons, List.length_nil, List.length_map]; omega)) ?_
    refine s_val rfl rfl (v_strAddB (a := ([91] ++ itoa x.index)) (b := [93]) rfl rfl rfl (by simp only [List.length_append, List.length_cons, List.length_nil, List.length_map]; omega)) ?_
    refine s_val rfl rfl (v_assign rfl rfl) ?_
    refine wpList_nil ?_
    refine wp_ret ?_
    refine ret_tmp Tryz.results102 rfl ?_
    refine ⟨cx.ext, congrArg (fun l => Value.string (bs l)) ?_⟩
    exact (step_ix hc6).symm
  · skip
    try simp only [Bool.and_eq_true, Bool.or_eq_true, Bool.and_eq_false_iff, Bool.or_eq_false_iff, Bool.not_eq_true', Bool.not_eq_false', decide_eq_true_eq, decide_eq_false_iff_not, beq_iff_eq, beq_eq_false_iff_ne, bne_iff_ne, bne_eq_false_iff_eq, ne_eq, Classical.not_not] at hc6
    have hkl := hg.2 hc6
    have hls0 : x.key.data.toList.length = x.key.size := by simp
    refine wp_skip ?_
    refine wp_seq ?_
    refine wp_seq ?_
    refine wp_region_lit ?_
    refine s_val rfl rfl (v_fa fa107_1 rfl rfl) ?_
    refine s_val rfl rfl (v_load1 rfl rfl Tryz.underlying9 rfl (cx.cell 0 rfl rfl)) ?_
    refine s_fnB cx (c164 _ _ (by omega)) Tryz.func164 rfl rfl rfl rfl rfl rfl ?_; intro q14 w cx hw14 hp14
    refine wpList_nil ?_
    refine c_split rfl (fun hc14 => ?_) (fun hc14 => ?_)
    · skip
      try simp only [Bool.and_eq_true, Bool.or_eq_true, Bool.and_eq_false_iff, Bool.or_eq_false_iff, Bool.not_eq_true', Bool.not_eq_false', decide_eq_true_eq, decide_eq_false_iff_not, beq_iff_eq, beq_eq_false_iff_ne, bne_iff_ne, bne_eq_false_iff_eq, ne_eq, Classical.not_not] at hc14
      refine wp_seq ?_
      refine wp_region_lit ?_
      refine s_val rfl rfl (v_fa fa107_1 rfl rfl) ?_
      refine s_val rfl rfl (v_load1 rfl rfl Tryz.underlying9 rfl (cx.cell 0 rfl rfl)) ?_
      refine s_val rfl rfl (v_strAddB (a := [46]) (b := x.key.data.toList) rfl rfl rfl (by simp only [List.length_append, List.length_cons, List.length_nil, List.length_map]; omega)) ?_
      refine s_val rfl rfl (v_assign rfl rfl) ?_
      refine wpList_nil ?_
      refine wp_ret ?_
      refine ret_tmp Tryz.results102 rfl ?_
      refine ⟨cx.ext, congrArg (fun l => Value.string (bs l)) ?_⟩
      exact (step_nm hc6 (hp14.1 hc14)).symm
    · skip
      try simp only [Bool.and_eq_true, Bool.or_eq_true, Bool.and_eq_false_iff, Bool.or_eq_false_iff, Bool.not_eq_true', Bool.not_eq_false', decide_eq_true_eq, decide_eq_false_iff_not, beq_iff_eq, beq_eq_false_iff_ne, bne_iff_ne, bne_eq_false_iff_eq, ne_eq, Classical.not_not] at hc14
      refine wp_skip ?_
      refine wp_seq ?_
      refine wp_region_lit ?_
      refine s_val rfl rfl (v_assign rfl rfl) ?_
      refine wpList_nil ?_
      refine wp_seq ?_
      refine wp_seq ?_
      refine wp_region_lit ?_
      refine s_val rfl rfl (v_assign rfl rfl) ?_
      refine wpList_nil ?_
      refine wp_block ?_
      refine w_loop (fun k f w1 => ∃ (i b1 : Nat), k + i = x.key.size ∧ f 1 = .pointer (some ⟨b1, 0, none⟩) ∧ f 4 = .int .i64 i ∧ f 3 = .string (bs ([46, 34] ++ (qtd (x.key.data.toList.take i)))) ∧ Ctx w0 w1 [(b1, .cells (srow x).toArray 107)]) (x.key.size) ?_ ?_
      · skip
        exact ⟨0, _, by omega, rfl, rfl, by simp [qtd]; rfl, cx⟩
      intro gk7 f w hJ
      obtain ⟨i, b1, hk, hs1, hs4, hs3, cx⟩ := hJ
      have hlq := qtd_len (x.key.data.toList.take i)
      have hlt := List.length_take_le i x.key.data.toList
      have hls : x.key.data.toList.length = x.key.size := by simp
      have hlx := sgn_len (UInt8.ofNat (byteAt x.key i).toNat)
      refine wp_seq ?_
      refine wp_seq ?_
      refine wp_region_lit ?_
      refine s_val rfl rfl (v_move rfl hs4) ?_
      refine s_val rfl rfl (v_fa fa107_1 rfl hs1) ?_
      refine s_val rfl rfl (v_load1 rfl rfl Tryz.underlying9 rfl (cx.cell 0 rfl rfl)) ?_
      refine s_val rfl rfl (v_lenString rfl rfl Tryz.underlying9) ?_
      refine s_val rfl rfl (v_cmp rfl rfl rfl rfl) ?_
      refine wpList_nil ?_
      refine c_split rfl (fun hc22 => ?_) (fun hc22 => ?_)
      · skip
        try simp only [Bool.and_eq_true, Bool.or_eq_true, Bool.and_eq_false_iff, Bool.or_eq_false_iff, Bool.not_eq_true', Bool.not_eq_false', decide_eq_true_eq, decide_eq_false_iff_not, beq_iff_eq, beq_eq_false_iff_ne, bne_iff_ne, bne_eq_false_iff_eq, ne_eq, Classical.not_not] at hc22
        refine wp_skip ?_
        refine wp_seq ?_
        refine wp_block ?_
        refine wp_region_lit ?_
        refine s_val rfl rfl (v_move rfl hs3) ?_
        refine s_val rfl rfl (v_fa fa107_1 rfl hs1) ?_
        refine s_val rfl rfl (v_load1 rfl rfl Tryz.underlying9 rfl (cx.cell 0 rfl rfl)) ?_
        refine s_val rfl rfl (v_move rfl hs4) ?_
        refine s_val rfl rfl (v_idxStr rfl rfl rfl Tryz.underlying9 (by omega) (by omega)) ?_
        refine s_fn cx (c165 _ _ (byteAt_lo _ _) (byteAt_hi _ _)) Tryz.func165 rfl rfl rfl rfl rfl rfl ?_; intro q30 w cx hw30 hp30
        subst hp30
        refine s_val rfl rfl (v_strAddB (a := ([46, 34] ++ (qtd (x.key.data.toList.take i)))) (b := (sgn (UInt8.ofNat (byteAt x.key i).toNat))) rfl rfl rfl (by simp only [List.length_append, List.length_cons, List.length_nil, List.length_map]; omega)) ?_
        refine s_val rfl rfl (v_assign rfl rfl) ?_
        refine wpList_nil ?_
        refine wp_region_lit ?_
        refine s_val rfl rfl (v_move rfl hs4) ?_
        refine s_val rfl rfl (v_add rfl rfl rfl (by omega) (by omega)) ?_
        refine s_val rfl rfl (v_assign rfl rfl) ?_
        refine wpList_nil ?_
        have hq := qtd_take x.key i (by omega)
        have hb : UInt8.ofNat (byteAt x.key i).toNat = x.key.data.toList.getD i 0 := by unfold byteAt; rw [Int.toNat_natCast, Int.toNat_natCast]; exact UInt8.ofNat_toNat
        refine ⟨gk7 - 1, _, by omega, rfl, i + 1, b1, by omega, hs1, rfl, congrArg (fun l => Value.string (bs l)) ?_, cx⟩
        rw [hq, hb, List.append_assoc]
      · skip
        try simp only [Bool.and_eq_true, Bool.or_eq_true, Bool.and_eq_false_iff, Bool.or_eq_false_iff, Bool.not_eq_true', Bool.not_eq_false', decide_eq_true_eq, decide_eq_false_iff_not, beq_iff_eq, beq_eq_false_iff_ne, bne_iff_ne, bne_eq_false_iff_eq, ne_eq, Classical.not_not] at hc22
        refine wp_exit ?_
        refine wp_seq ?_
        refine wp_region_lit ?_
        refine s_val rfl rfl (v_move rfl hs3) ?_
        refine s_val rfl rfl (v_strAddB (a := ([46, 34] ++ (qtd (x.key.data.toList.take i)))) (b := [34]) rfl rfl rfl (by simp only [List.length_append, List.length_cons, List.length_nil, List.length_map]; omega)) ?_
        refine s_val rfl rfl (v_assign rfl rfl) ?_
        refine wpList_nil ?_
        refine wp_ret ?_
        refine ret_tmp Tryz.results102 rfl ?_
        refine ⟨cx.ext, congrArg (fun l => Value.string (bs l)) ?_⟩
        rw [step_qt hc6 (fun h => by rw [hp14.2 h] at hc14; cases hc14)]
        have hi : i = x.key.size := by omega
        subst hi
        rw [show x.key.data.toList.take x.key.size = x.key.data.toList from List.take_of_length_le (by simp)]
        rfl
set_option maxHeartbeats 4000000 in
set_option maxRecDepth 10000 in
theorem c53 (v : Value) (l : List Stp) (w0 : World) (hv : Pth w0 v l) (hg : ∀ s ∈ l, GdS s) (hl : l.length ≤ 48) : Fc Tryz.prog 53 [v] w0 (fun v _ => v = .string (bs (pathT l))) := by
  obtain ⟨a, c, b, o, rfl, ha, hr⟩ := hv.form
  refine ret_enter Tryz.func53 rfl Tryz.ntmps53 rfl ?_
  have cx := Ctx.start w0
  refine wp_seq ?_
  refine wp_region_lit ?_
  refine s_val rfl rfl (v_assign rfl rfl) ?_
  refine wpList_nil ?_
  refine wp_seq ?_
  refine wp_seq ?_
  refine wp_region_lit ?_
  refine s_val rfl rfl (v_move rfl rfl) ?_
  refine s_val rfl rfl (v_lenSlice rfl rfl Tryz.underlying28) ?_
  refine s_val rfl rfl (v_cmp rfl rfl rfl rfl) ?_
  refine wpList_nil ?_
  refine c_split rfl (fun hc7 => ?_) (fun hc7 => ?_)
  · skip
    try simp only [Bool.and_eq_true, Bool.or_eq_true, Bool.and_eq_false_iff, Bool.or_eq_false_iff, Bool.not_eq_true', Bool.not_eq_false', decide_eq_true_eq, decide_eq_false_iff_not, beq_iff_eq, beq_eq_false_iff_ne, bne_iff_ne, bne_eq_false_iff_eq, ne_eq, Classical.not_not] at hc7
    refine wp_seq ?_
    refine wp_region_lit ?_
    refine s_val rfl rfl (v_assign rfl rfl) ?_
    refine wpList_nil ?_
    refine wp_ret ?_
    refine ret_tmp Tryz.results53 rfl ?_
    have e : l = [] := List.eq_nil_of_length_eq_zero (by omega)
    subst e
    exact ⟨cx.ext, rfl⟩
  · skip
    try simp only [Bool.and_eq_true, Bool.or_eq_true, Bool.and_eq_false_iff, Bool.or_eq_false_iff, Bool.not_eq_true', Bool.not_eq_false', decide_eq_true_eq, decide_eq_false_iff_not, beq_iff_eq, beq_eq_false_iff_ne, bne_iff_ne, bne_eq_false_iff_eq, ne_eq, Classical.not_not] at hc7
    have hne : l ≠ [] := by rintro rfl; simp at hc7
    have hpos : 0 < l.length := List.length_pos_iff.2 hne
    obtain ⟨x0, hx0⟩ : ∃ x, l[0]? = some x := ⟨l[0]'hpos, List.getElem?_eq_getElem _⟩
    have hr0 := hr 0 x0 hx0
    obtain rfl := ha hpos
    refine wp_skip ?_
    refine wp_seq ?_
    refine wp_region_lit ?_
    refine s_val rfl rfl (v_assign rfl rfl) ?_
    refine wpList_nil ?_
    refine w_cut (fun f w1 => f 0 = .slice (some ⟨b, o, none⟩) l.length c ∧ f 3 = .string (bs (ldp l)) ∧ Ctx w0 w1 []) ?_ ?_
    · skip
      refine wp_seq ?_
      refine wp_region_lit ?_
      refine s_val rfl rfl (v_move rfl rfl) ?_
      refine s_val rfl rfl (v_ia Tryz.underlying28 sz107 rfl rfl rfl (by omega) (by omega)) ?_
      refine s_val rfl rfl (v_fa fa107_0 rfl rfl) ?_
      refine s_val rfl rfl (v_load1 rfl rfl Tryz.underlying4 rfl ((hr0.up cx.ext).cell 0 rfl)) ?_
      refine wpList_nil ?_
      refine c_split rfl (fun hc11 => ?_) (fun hc11 => ?_)
      · skip
        try simp only [Bool.and_eq_true, Bool.or_eq_true, Bool.and_eq_false_iff, Bool.or_eq_false_iff, Bool.not_eq_true', Bool.not_eq_false', decide_eq_true_eq, decide_eq_false_iff_not, beq_iff_eq, beq_eq_false_iff_ne, bne_iff_ne, bne_eq_false_iff_eq, ne_eq, Classical.not_not] at hc11
        refine wp_region_lit ?_
        refine s_val rfl rfl (v_assign rfl rfl) ?_
        refine wpList_nil ?_
        first | exact ⟨_, rfl, rfl, by rw [ldp_T hx0 hc11]; rfl, cx⟩ | exact ⟨_, rfl, rfl, by rw [ldp_F hx0 hc11]; rfl, cx⟩
      · skip
        try simp only [Bool.and_eq_true, Bool.or_eq_true, Bool.and_eq_false_iff, Bool.or_eq_false_iff, Bool.not_eq_true', Bool.not_eq_false', decide_eq_true_eq, decide_eq_false_iff_not, beq_iff_eq, beq_eq_false_iff_ne, bne_iff_ne, bne_eq_false_iff_eq, ne_eq, Classical.not_not] at hc11
        refine wp_skip ?_
        first | exact ⟨_, rfl, rfl, by rw [ldp_T hx0 hc11]; rfl, cx⟩ | exact ⟨_, rfl, rfl, by rw [ldp_F hx0 hc11]; rfl, cx⟩
    intro f w hJ
    obtain ⟨hs0, hs3, cx⟩ := hJ
    refine wp_seq ?_
    refine wp_seq ?_
    refine wp_region_lit ?_
    refine s_val rfl rfl (v_assign rfl rfl) ?_
    refine wpList_nil ?_
    refine wp_block ?_
    refine w_loop (fun k f w1 => ∃ i : Nat, k + i = l.length ∧ f 0 = .slice (some ⟨b, o, none⟩) l.length c ∧ f 4 = .int .i64 i ∧ f 3 = .string (bs (ldp l ++ (l.take i).flatMap stpT)) ∧ Ctx w0 w1 []) (l.length) ?_ ?_
    · skip
      exact ⟨0, by omega, hs0, rfl, hs3.trans (by simp), cx⟩
    intro gk7 f w hJ
    obtain ⟨i, hk, hs0, hs4, hs3, cx⟩ := hJ
    refine wp_seq ?_
    refine wp_seq ?_
    refine wp_region_lit ?_
    refine s_val rfl rfl (v_move rfl hs4) ?_
    refine s_val rfl rfl (v_move rfl hs0) ?_
    refine s_val rfl rfl (v_lenSlice rfl rfl Tryz.underlying28) ?_
    refine s_val rfl rfl (v_cmp rfl rfl rfl rfl) ?_
    refine wpList_nil ?_
    refine c_split rfl (fun hc15 => ?_) (fun hc15 => ?_)
    · skip
      try simp only [Bool.and_eq_true, Bool.or_eq_true, Bool.and_eq_false_iff, Bool.or_eq_false_iff, Bool.not_eq_true', Bool.not_eq_false', decide_eq_true_eq, decide_eq_false_iff_not, beq_iff_eq, beq_eq_false_iff_ne, bne_iff_ne, bne_eq_false_iff_eq, ne_eq, Classical.not_not] at hc15
      obtain ⟨x, hx⟩ : ∃ x, l[i]? = some x := ⟨l[i]'(by omega), List.getElem?_eq_getElem _⟩
      have hrw := hr i x hx
      have hgx := hg x (List.mem_of_getElem? hx)
      have hll := ldp_le l
      have hfl := flat_len (l := l.take i) (fun y hy => hg y (List.mem_of_mem_take hy))
      rw [List.length_take] at hfl
      have hsl := stepT_len hgx
      refine wp_skip ?_
      refine wp_seq ?_
      refine wp_block ?_
      refine wp_region_lit ?_
      refine s_val rfl rfl (v_move rfl hs3) ?_
      refine s_val rfl rfl (v_move rfl hs0) ?_
      refine s_val rfl rfl (v_move rfl hs4) ?_
      refine s_val rfl rfl (v_ia Tryz.underlying28 sz107 rfl rfl rfl (by omega) (by omega)) ?_
      refine s_val rfl rfl (v_load rfl rfl Tryz.underlying107 rfl sz107 (hrw.up cx.ext) rfl) ?_
      refine s_fn cx (c102 x _ hgx) Tryz.func102 rfl rfl rfl rfl rfl rfl ?_; intro q23 w cx hw23 hp23
      subst hp23
      refine s_val rfl rfl (v_strAddB (a := (ldp l ++ (l.take i).flatMap stpT)) (b := (stpT x)) rfl rfl rfl (by simp only [List.length_append, List.length_cons, List.length_nil, List.length_map]; omega)) ?_
      refine s_val rfl rfl (v_assign rfl rfl) ?_
      refine wpList_nil ?_
      refine wp_region_lit ?_
      refine s_val rfl rfl (v_move rfl hs4) ?_
      refine s_val rfl rfl (v_add rfl rfl rfl (by omega) (by omega)) ?_
      refine s_val rfl rfl (v_assign rfl rfl) ?_
      refine wpList_nil ?_
      have hq : ldp l ++ (l.take (i + 1)).flatMap stpT = (ldp l ++ (l.take i).flatMap stpT) ++ stpT x := by rw [flat_take l i x hx, List.append_assoc]
      refine ⟨gk7 - 1, _, by omega, rfl, i + 1, by omega, hs0, rfl, congrArg (fun l => Value.string (bs l)) hq.symm, cx⟩
    · skip
      try simp only [Bool.and_eq_true, Bool.or_eq_true, Bool.and_eq_false_iff, Bool.or_eq_false_iff, Bool.not_eq_true', Bool.not_eq_false', decide_eq_true_eq, decide_eq_false_iff_not, beq_iff_eq, beq_eq_false_iff_ne, bne_iff_ne, bne_eq_false_iff_eq, ne_eq, Classical.not_not] at hc15
      refine wp_exit ?_
      refine wp_seq ?_
      refine wp_region_lit ?_
      refine s_val rfl rfl (v_move rfl hs3) ?_
      refine s_val rfl rfl (v_assign rfl rfl) ?_
      refine wpList_nil ?_
      refine wp_ret ?_
      refine ret_tmp Tryz.results53 rfl ?_
      refine ⟨cx.ext, congrArg (fun l => Value.string (bs l)) ?_⟩
      have hi : i = l.length := by omega
      subst hi
      rw [List.take_length]
      exact (path_ldp hne).symm
end Go.Proofs.YthiafbkolhnadaaGreatDoor
end
section
set_option linter.unusedSimpArgs false
set_option linter.unusedVariables false
namespace Go.Proofs.YthiafbkolhnadaaGreatDoor
open Go Go.Dk Go.RowKit Go.Lib
attribute [local irreducible] Go.wpList Go.Code.wp Go.bodyPost Go.wpStill Go.wpQuiet
theorem dvl_k : Go.Ev.evalE Tryz.prog env0 8 306 [.agg #[.bool false, .string ByteArray.empty, .int .i64 0]] = some (.bool true) := by kernel_rfl
theorem tvl_k : Go.Ev.evalE Tryz.prog env0 8 233 [.agg #[.int .i64 0, .int .i64 0, .int .i64 0, .int .i64 0]] = some (.bool false) := by kernel_rfl
theorem c233 (w : World) : Fc Tryz.prog 233 [.agg #[.int .i64 0, .int .i64 0, .int .i64 0, .int .i64 0]] w (IsB fun b => b = false) := (call_of tvl_k w).mono fun v w' _ h => ⟨_, h, rfl⟩
theorem kys_k : Go.Ev.evalE Tryz.prog env0 8 307 [.slice none 0 0] = some (.int .i64 0) := by kernel_rfl
theorem c232 (m : Int) (w : World) (h0 : 0 ≤ m) (h1 : m < 256) : Fc Tryz.prog 232 [.int .u8 m] w fun v _ => v = .string (bs (sgq (UInt8.ofNat m.toNat))) := of_allB sgq_k m h0 h1 w
set_option maxHeartbeats 4000000 in
set_option maxRecDepth 10000 in
theorem c305 (c : ByteArray) (w0 : World) : Fc Tryz.prog 305 [.agg (leaf c).toArray] w0 (fun v _ => v = .bool true) := by
  refine ret_enter Tryz.func305 rfl Tryz.ntmps305 rfl ?_
  have cx := Ctx.start w0
  refine wp_seq ?_
  refine wp_region_lit ?_
  refine s_box cx rfl rfl rfl rfl rfl ?_; intro b1 w cx hb1 hw1
  refine s_val rfl rfl (v_assign rfl rfl) ?_
  refine wpList_nil ?_
  refine wp_seq ?_
  refine wp_region_lit ?_
  refine s_val rfl rfl (v_fa fa83_0 rfl rfl) ?_
  refine s_val rfl rfl (v_load1 rfl rfl Tryz.underlying3 rfl (cx.cell 0 rfl rfl)) ?_
  refine s_val rfl rfl (v_assign rfl rfl) ?_
  refine wpList_nil ?_
  refine wp_seq ?_
  refine wp_seq ?_
  refine wp_region_lit ?_
  refine s_val rfl rfl (v_move rfl rfl) ?_
  refine s_val rfl rfl (v_cmp rfl rfl rfl rfl) ?_
  refine s_val rfl rfl (v_move rfl rfl) ?_
  refine s_gval rfl rfl rfl (by first | exact w_ff rfl | exact w_gf rfl) (fun hc => v_move rfl (by first | exact gve hc rfl | exact gve (and_l hc) rfl | exact gve (and_l (and_l hc)) rfl | rfl)) ?_
  refine s_gval rfl rfl rfl (by first | exact w_ff rfl | exact w_gf rfl) (fun hc => v_cmp rfl (by first | exact gve hc rfl | exact gve (and_l hc) rfl | exact gve (and_l (and_l hc)) rfl | rfl) rfl rfl) ?_
  refine s_val rfl rfl (v_or rfl rfl rfl rfl) ?_
  refine s_val rfl rfl (v_move rfl rfl) ?_
  refine s_gval rfl rfl rfl (by first | exact w_ff rfl | exact w_gf rfl) (fun hc => v_move rfl (by first | exact gve hc rfl | exact gve (and_l hc) rfl | exact gve (and_l (and_l hc)) rfl | rfl)) ?_
  refine s_gval rfl rfl rfl (by first | exact w_ff rfl | exact w_gf rfl) (fun hc => v_cmp rfl (by first | exact gve hc rfl | exact gve (and_l hc) rfl | exact gve (and_l (and_l hc)) rfl | rfl) rfl rfl) ?_
  refine s_gval rfl rfl rfl (by first | exact w_ff rfl | exact w_gf rfl) (fun hc => v_move rfl (by first | exact gve hc rfl | exact gve (and_l hc) rfl | exact gve (and_l (and_l hc)) rfl | rfl)) ?_
  refine s_gval rfl rfl rfl (by first | exact w_tt rfl | exact w_gt rfl) (fun hc => v_fa fa83_1 rfl (by first | exact gve hc rfl | exact gve (and_l hc) rfl | exact gve (and_l (and_l hc)) rfl | rfl)) ?_
  refine s_gval rfl rfl rfl (by first | exact w_tt rfl | exact w_gt rfl) (fun hc => v_load1 rfl (by first | exact gve hc rfl | exact gve (and_l hc) rfl | exact gve (and_l (and_l hc)) rfl | rfl) Tryz.underlying4 rfl (cx.cell 0 rfl rfl)) ?_
  refine s_gval rfl rfl rfl (by first | exact w_ff rfl | exact w_gf rfl) (fun hc => v_and_g hc rfl rfl rfl rfl) ?_
  refine s_val rfl rfl (v_or rfl rfl rfl rfl) ?_
  refine s_val rfl rfl (v_move rfl rfl) ?_
  refine s_gval rfl rfl rfl (by first | exact w_ff rfl | exact w_gf rfl) (fun hc => v_move rfl (by first | exact gve hc rfl | exact gve (and_l hc) rfl | exact gve (and_l (and_l hc)) rfl | rfl)) ?_
  refine s_gval rfl rfl rfl (by first | exact w_ff rfl | exact w_gf rfl) (fun hc => v_cmp rfl (by first | exact gve hc rfl | exact gve (and_l hc) rfl | exact gve (and_l (and_l hc)) rfl | rfl) rfl rfl) ?_
  refine s_gval rfl rfl rfl (by first | exact w_ff rfl | exact w_gf rfl) (fun hc => v_move rfl (by first | exact gve hc rfl | exact gve (and_l hc) rfl | exact gve (and_l (and_l hc)) rfl | rfl)) ?_
  refine s_gval rfl rfl rfl (by first | exact w_tt rfl | exact w_gt rfl) (fun hc => v_fa fa83_2 rfl (by first | exact gve hc rfl | exact gve (and_l hc) rfl | exact gve (and_l (and_l hc)) rfl | rfl)) ?_
  refine s_gval rfl rfl rfl (by first | exact w_tt rfl | exact w_gt rfl) (fun hc => v_load rfl (by first | exact gve hc rfl | rfl) Tryz.underlying76 rfl sz76 (l := [.bool false, .string ByteArray.empty, .int .i64 0]) ((cx.row 0 rfl).sub 2 rfl) rfl) ?_
  refine s_gval rfl rfl rfl (by first | exact w_tt rfl | exact w_gt rfl) (fun hc => v_build bd76 rfl rfl) ?_
  refine s_gval rfl rfl rfl (by first | exact w_tt rfl | exact w_gt rfl) (fun hc => v_agg eqg76 nz76 rfl (by first | exact gve hc rfl | rfl) (by first | exact gve hc rfl | rfl)) ?_
  refine s_gval rfl rfl rfl (by first | exact w_ff rfl | exact w_gf rfl) (fun hc => v_and_g hc rfl rfl rfl rfl) ?_
  refine s_val rfl rfl (v_or rfl rfl rfl rfl) ?_
  refine s_val rfl rfl (v_move rfl rfl) ?_
  refine s_gval rfl rfl rfl (by first | exact w_ff rfl | exact w_gf rfl) (fun hc => v_move rfl (by first | exact gve hc rfl | exact gve (and_l hc) rfl | exact gve (and_l (and_l hc)) rfl | rfl)) ?_
  refine s_gval rfl rfl rfl (by first | exact w_ff rfl | exact w_gf rfl) (fun hc => v_cmp rfl (by first | exact gve hc rfl | exact gve (and_l hc) rfl | exact gve (and_l (and_l hc)) rfl | rfl) rfl rfl) ?_
  refine s_gval rfl rfl rfl (by first | exact w_ff rfl | exact w_gf rfl) (fun hc => v_move rfl (by first | exact gve hc rfl | exact gve (and_l hc) rfl | exact gve (and_l (and_l hc)) rfl | rfl)) ?_
  refine s_gval rfl rfl rfl (by first | exact w_tt rfl | exact w_gt rfl) (fun hc => v_fa fa83_3 rfl (by first | exact gve hc rfl | exact gve (and_l hc) rfl | exact gve (and_l (and_l hc)) rfl | rfl)) ?_
  refine s_gval rfl rfl rfl (by first | exact w_tt rfl | exact w_gt rfl) (fun hc => v_load rfl (by first | exact gve hc rfl | rfl) Tryz.underlying78 rfl sz78 (l := [.int .i64 0, .int .i64 0, .int .i64 0, .int .i64 0]) ((cx.row 0 rfl).sub 5 rfl) rfl) ?_
  refine s_gval rfl rfl rfl (by first | exact w_tt rfl | exact w_gt rfl) (fun hc => v_build bd78 rfl rfl) ?_
  refine s_gval rfl rfl rfl (by first | exact w_tt rfl | exact w_gt rfl) (fun hc => v_agg eqg78 nz78 rfl (by first | exact gve hc rfl | rfl) (by first | exact gve hc rfl | rfl)) ?_
  refine s_gval rfl rfl rfl (by first | exact w_ff rfl | exact w_gf rfl) (fun hc => v_and_g hc rfl rfl rfl rfl) ?_
  refine s_val rfl rfl (v_or rfl rfl rfl rfl) ?_
  refine wpList_nil ?_
  refine wp_cond_false (show (St _ _).eval _ = _ by rw [eval_St]; rfl) ?_
  refine wp_skip ?_
  refine wp_seq ?_
  refine wp_region_lit ?_
  refine s_val rfl rfl (v_move rfl rfl) ?_
  refine s_val rfl rfl (v_cmp rfl rfl rfl rfl) ?_
  refine s_val rfl rfl (v_move rfl rfl) ?_
  refine s_gval rfl rfl rfl (by first | exact w_ff rfl | exact w_gf rfl) (fun hc => v_fa fa83_4 rfl (by first | exact gve hc rfl | exact gve (and_l hc) rfl | exact gve (and_l (and_l hc)) rfl | rfl)) ?_
  refine s_gval rfl rfl rfl (by first | exact w_ff rfl | exact w_gf rfl) (fun hc => v_load1 rfl (by first | exact gve hc rfl | exact gve (and_l hc) rfl | exact gve (and_l (and_l hc)) rfl | rfl) Tryz.underlying9 rfl (cx.cell 0 rfl rfl)) ?_
  refine s_gval rfl rfl rfl (by first | exact w_ff rfl | exact w_gf rfl) (fun hc => v_strEq rfl (by first | exact gve hc rfl | exact gve (and_l hc) rfl | exact gve (and_l (and_l hc)) rfl | rfl) rfl) ?_
  refine s_val rfl rfl (v_or rfl rfl rfl rfl) ?_
  refine s_val rfl rfl (v_move rfl rfl) ?_
  refine s_gval rfl rfl rfl (by first | exact w_tt rfl | exact w_gt rfl) (fun hc => v_move rfl (by first | exact gve hc rfl | exact gve (and_l hc) rfl | exact gve (and_l (and_l hc)) rfl | rfl)) ?_
  refine s_gval rfl rfl rfl (by first | exact w_tt rfl | exact w_gt rfl) (fun hc => v_cmp rfl (by first | exact gve hc rfl | exact gve (and_l hc) rfl | exact gve (and_l (and_l hc)) rfl | rfl) rfl rfl) ?_
  refine s_gval rfl rfl rfl (by first | exact w_tt rfl | exact w_gt rfl) (fun hc => v_move rfl (by first | exact gve hc rfl | exact gve (and_l hc) rfl | exact gve (and_l (and_l hc)) rfl | rfl)) ?_
  refine s_gval rfl rfl rfl (by first | exact w_ff rfl | exact w_gf rfl) (fun hc => v_fa fa83_5 rfl (by first | exact gve hc rfl | exact gve (and_l hc) rfl | exact gve (and_l (and_l hc)) rfl | rfl)) ?_
  refine s_gval rfl rfl rfl (by first | exact w_ff rfl | exact w_gf rfl) (fun hc => v_load1 rfl (by first | exact gve hc rfl | exact gve (and_l hc) rfl | exact gve (and_l (and_l hc)) rfl | rfl) Tryz.underlying79 rfl (cx.cell 0 rfl rfl)) ?_
  refine s_gval rfl rfl rfl (by first | exact w_ff rfl | exact w_gf rfl) (fun hc => v_lenSlice rfl (by first | exact gve hc rfl | exact gve (and_l hc) rfl | exact gve (and_l (and_l hc)) rfl | rfl) Tryz.underlying79) ?_
  refine s_gval rfl rfl rfl (by first | exact w_ff rfl | exact w_gf rfl) (fun hc => v_cmp rfl (by first | exact gve hc rfl | exact gve (and_l hc) rfl | exact gve (and_l (and_l hc)) rfl | rfl) rfl rfl) ?_
  refine s_gval rfl rfl rfl (by first | exact w_tt rfl | exact w_gt rfl) (fun hc => v_or_g hc rfl rfl rfl rfl) ?_
  refine s_val rfl rfl (v_and rfl rfl rfl rfl) ?_
  refine s_val rfl rfl (v_move rfl rfl) ?_
  refine s_gval rfl rfl rfl (by first | exact w_tt rfl | exact w_gt rfl) (fun hc => v_move rfl (by first | exact gve hc rfl | exact gve (and_l hc) rfl | exact gve (and_l (and_l hc)) rfl | rfl)) ?_
  refine s_gval rfl rfl rfl (by first | exact w_tt rfl | exact w_gt rfl) (fun hc => v_cmp rfl (by first | exact gve hc rfl | exact gve (and_l hc) rfl | exact gve (and_l (and_l hc)) rfl | rfl) rfl rfl) ?_
  refine s_gval rfl rfl rfl (by first | exact w_tt rfl | exact w_gt rfl) (fun hc => v_move rfl (by first | exact gve hc rfl | exact gve (and_l hc) rfl | exact gve (and_l (and_l hc)) rfl | rfl)) ?_
  refine s_gval rfl rfl rfl (by first | exact w_ff rfl | exact w_gf rfl) (fun hc => v_fa fa83_6 rfl (by first | exact gve hc rfl | exact gve (and_l hc) rfl | exact gve (and_l (and_l hc)) rfl | rfl)) ?_
  refine s_gval rfl rfl rfl (by first | exact w_ff rfl | exact w_gf rfl) (fun hc => v_load1 rfl (by first | exact gve hc rfl | exact gve (and_l hc) rfl | exact gve (and_l (and_l hc)) rfl | rfl) Tryz.underlying80 rfl (cx.cell 0 rfl rfl)) ?_
  refine s_gval rfl rfl rfl (by first | exact w_ff rfl | exact w_gf rfl) (fun hc => v_lenSlice rfl (by first | exact gve hc rfl | exact gve (and_l hc) rfl | exact gve (and_l (and_l hc)) rfl | rfl) Tryz.underlying80) ?_
  refine s_gval rfl rfl rfl (by first | exact w_ff rfl | exact w_gf rfl) (fun hc => v_cmp rfl (by first | exact gve hc rfl | exact gve (and_l hc) rfl | exact gve (and_l (and_l hc)) rfl | rfl) rfl rfl) ?_
  refine s_gval rfl rfl rfl (by first | exact w_tt rfl | exact w_gt rfl) (fun hc => v_or_g hc rfl rfl rfl rfl) ?_
  refine s_val rfl rfl (v_and rfl rfl rfl rfl) ?_
  refine s_val rfl rfl (v_move rfl rfl) ?_
  refine s_gval rfl rfl rfl (by first | exact w_tt rfl | exact w_gt rfl) (fun hc => v_move rfl (by first | exact gve hc rfl | exact gve (and_l hc) rfl | exact gve (and_l (and_l hc)) rfl | rfl)) ?_
  refine s_gval rfl rfl rfl (by first | exact w_tt rfl | exact w_gt rfl) (fun hc => v_cmp rfl (by first | exact gve hc rfl | exact gve (and_l hc) rfl | exact gve (and_l (and_l hc)) rfl | rfl) rfl rfl) ?_
  refine s_gval rfl rfl rfl (by first | exact w_tt rfl | exact w_gt rfl) (fun hc => v_move rfl (by first | exact gve hc rfl | exact gve (and_l hc) rfl | exact gve (and_l (and_l hc)) rfl | rfl)) ?_
  refine s_gval rfl rfl rfl (by first | exact w_ff rfl | exact w_gf rfl) (fun hc => v_fa fa83_7 rfl (by first | exact gve hc rfl | exact gve (and_l hc) rfl | exact gve (and_l (and_l hc)) rfl | rfl)) ?_
  refine s_gval rfl rfl rfl (by first | exact w_ff rfl | exact w_gf rfl) (fun hc => v_load1 rfl (by first | exact gve hc rfl | exact gve (and_l hc) rfl | exact gve (and_l (and_l hc)) rfl | rfl) Tryz.underlying81 rfl (cx.cell 0 rfl rfl)) ?_
  refine s_gval rfl rfl rfl (by first | exact w_ff rfl | exact w_gf rfl) (fun hc => v_lenSlice rfl (by first | exact gve hc rfl | exact gve (and_l hc) rfl | exact gve (and_l (and_l hc)) rfl | rfl) Tryz.underlying81) ?_
  refine s_gval rfl rfl rfl (by first | exact w_ff rfl | exact w_gf rfl) (fun hc => v_cmp rfl (by first | exact gve hc rfl | exact gve (and_l hc) rfl | exact gve (and_l (and_l hc)) rfl | rfl) rfl rfl) ?_
  refine s_gval rfl rfl rfl (by first | exact w_tt rfl | exact w_gt rfl) (fun hc => v_or_g hc rfl rfl rfl rfl) ?_
  refine s_val rfl rfl (v_and rfl rfl rfl rfl) ?_
  refine s_val rfl rfl (v_assign rfl rfl) ?_
  refine wpList_nil ?_
  refine wp_ret ?_
  refine ret_tmp Tryz.results305 rfl ?_
  exact ⟨cx.ext, rfl⟩
set_option maxHeartbeats 4000000 in
set_option maxRecDepth 10000 in
theorem c229 (c : ByteArray) (w0 : World) : Fc Tryz.prog 229 [.agg (leaf c).toArray] w0 (fun v _ => v = .slice none 0 0) := by
  refine ret_enter Tryz.func229 rfl Tryz.ntmps229 rfl ?_
  have cx := Ctx.start w0
  refine wp_seq ?_
  refine wp_region_lit ?_
  refine s_box cx rfl rfl rfl rfl rfl ?_; intro b1 w cx hb1 hw1
  refine s_val rfl rfl (v_assign rfl rfl) ?_
  refine wpList_nil ?_
  refine wp_seq ?_
  refine wp_seq ?_
  refine wp_region_lit ?_
  refine s_val rfl rfl (v_fa fa83_0 rfl rfl) ?_
  refine s_val rfl rfl (v_load1 rfl rfl Tryz.underlying3 rfl (cx.cell 0 rfl rfl)) ?_
  refine s_val rfl rfl (v_cmp rfl rfl rfl rfl) ?_
  refine wpList_nil ?_
  refine wp_cond_true (show (St _ _).eval _ = _ by rw [eval_St]; rfl) ?_
  refine wp_seq ?_
  refine wp_region_lit ?_
  refine s_val rfl rfl (v_fa fa83_6 rfl rfl) ?_
  refine s_val rfl rfl (v_load1 rfl rfl Tryz.underlying80 rfl (cx.cell 0 rfl rfl)) ?_
  refine s_val rfl rfl (v_assign rfl rfl) ?_
  refine wpList_nil ?_
  refine wp_ret ?_
  refine ret_tmp Tryz.results229 rfl ?_
  exact ⟨cx.ext, rfl⟩
set_option maxHeartbeats 4000000 in
set_option maxRecDepth 10000 in
theorem c52 (c : ByteArray) (w0 : World) : Fc Tryz.prog 52 [.string c] w0 (fun v _ => v = .agg (leaf c).toArray) := by
  refine ret_enter Tryz.func52 rfl Tryz.ntmps52 rfl ?_
  have cx := Ctx.start w0
  refine wp_seq ?_
  refine wp_region_lit ?_
  refine s_alloc cx z83 rfl rfl rfl ?_; intro b2 w cx hb2 hw2
  refine wpList_nil ?_
  refine wp_seq ?_
  refine wp_region_lit ?_
  refine s_val rfl rfl (v_move rfl rfl) ?_
  refine s_val rfl rfl (v_build (qs := [(0, .int .i64 4), (4, .string c)]) (bd83 c) rfl rfl) ?_
  refine s_storeAll cx 0 rfl rfl rfl rfl rfl rfl sz83 rfl rfl ?_; intro w cx hwS1
  refine wpList_nil ?_
  refine wp_ret ?_
  refine ret_cell Tryz.results52 rfl (cx.at 0 rfl) Tryz.underlying83 rfl sz83 ?_
  exact ⟨cx.ext, rfl⟩
set_option maxHeartbeats 4000000 in
set_option maxRecDepth 10000 in
theorem c228 (c : ByteArray) (w0 : World) (hv : validD c.data.toList = true) (hc : c.size ≤ 1024) : Fc Tryz.prog 228 [.agg (leaf c).toArray] w0 (fun v _ => v = .int .i64 0) := by
  refine ret_enter Tryz.func228 rfl Tryz.ntmps228 rfl ?_
  have cx := Ctx.start w0
  refine wp_seq ?_
  refine wp_region_lit ?_
  refine s_box cx rfl rfl rfl rfl rfl ?_; intro b1 w cx hb1 hw1
  refine s_val rfl rfl (v_assign rfl rfl) ?_
  refine wpList_nil ?_
  refine wp_seq ?_
  refine wp_seq ?_
  refine wp_region_lit ?_
  refine s_val rfl rfl (v_load rfl rfl Tryz.underlying83 rfl sz83 (cx.row 0 rfl) rfl) ?_
  refine s_fn cx (c305 c _) Tryz.func305 rfl rfl rfl rfl rfl rfl ?_; intro q4 w cx hw4 hp4
  subst hp4
  refine s_val rfl rfl (v_not rfl rfl) ?_
  refine wpList_nil ?_
  refine wp_cond_false (show (St _ _).eval _ = _ by rw [eval_St]; rfl) ?_
  refine wp_skip ?_
  refine wp_seq ?_
  refine wp_seq ?_
  refine wp_region_lit ?_
  refine s_val rfl rfl (v_fa fa83_2 rfl rfl) ?_
  refine s_val rfl rfl (v_load rfl rfl Tryz.underlying76 rfl sz76 (l := [.bool false, .string ByteArray.empty, .int .i64 0]) ((cx.row 0 rfl).sub 2 rfl) rfl) ?_
  refine s_fn cx (call_of dvl_k _) Tryz.func306 rfl rfl rfl rfl rfl rfl ?_; intro q8 w cx hw8 hp8
  subst hp8
  refine s_val rfl rfl (v_not rfl rfl) ?_
  refine s_val rfl rfl (v_move rfl rfl) ?_
  refine s_gval rfl rfl rfl (by first | exact w_ff rfl | exact w_gf rfl) (fun hc => v_fa fa83_0 rfl (by first | exact gve hc rfl | exact gve (and_l hc) rfl | exact gve (and_l (and_l hc)) rfl | rfl)) ?_
  refine s_gval rfl rfl rfl (by first | exact w_ff rfl | exact w_gf rfl) (fun hc => v_load1 rfl (by first | exact gve hc rfl | exact gve (and_l hc) rfl | exact gve (and_l (and_l hc)) rfl | rfl) Tryz.underlying3 rfl (cx.cell 0 rfl rfl)) ?_
  refine s_gval rfl rfl rfl (by first | exact w_ff rfl | exact w_gf rfl) (fun hc => v_cmp rfl (by first | exact gve hc rfl | exact gve (and_l hc) rfl | exact gve (and_l (and_l hc)) rfl | rfl) rfl rfl) ?_
  refine s_gval rfl rfl rfl (by first | exact w_ff rfl | exact w_gf rfl) (fun hc => v_move rfl (by first | exact gve hc rfl | exact gve (and_l hc) rfl | exact gve (and_l (and_l hc)) rfl | rfl)) ?_
  refine s_gval rfl rfl rfl (by first | exact w_tt rfl | exact w_gt rfl) (fun hc => v_fa fa83_3 rfl (by first | exact gve hc rfl | exact gve (and_l hc) rfl | exact gve (and_l (and_l hc)) rfl | rfl)) ?_
  refine s_gval rfl rfl rfl (by first | exact w_tt rfl | exact w_gt rfl) (fun hc => v_load rfl (by first | exact gve hc rfl | rfl) Tryz.underlying78 rfl sz78 (l := [.int .i64 0, .int .i64 0, .int .i64 0, .int .i64 0]) ((cx.row 0 rfl).sub 5 rfl) rfl) ?_
  refine s_gfnB cx rfl rfl rfl (by first | exact w_tt rfl | exact w_gt rfl) (fun hc => c233 _) Tryz.func233 rfl rfl rfl (fun hc => (cons_eq (by first | exact gve hc rfl | exact gve (and_l hc) rfl | exact gve (and_l (and_l hc)) rfl | rfl) rfl)) ?_; intro q17 w cx hw17 hp17
  refine s_gval rfl rfl rfl (by first | exact w_tt rfl | exact w_gt rfl) (fun hc => v_not rfl (by first | exact gve hc rfl | exact gve (and_l hc) rfl | exact gve (and_l (and_l hc)) rfl | rfl)) ?_
  refine s_gval rfl rfl rfl (by first | exact w_ff rfl | exact w_gf rfl) (fun hc => v_and_g hc rfl rfl rfl rfl) ?_
  refine s_val rfl rfl (v_or rfl rfl rfl rfl) ?_
  refine wpList_nil ?_
  refine wp_cond_false (show (St _ _).eval _ = _ by rw [eval_St]; rfl) ?_
  refine wp_skip ?_
  refine wp_seq ?_
  refine wp_seq ?_
  refine wp_region_lit ?_
  refine s_val rfl rfl (v_fa fa83_4 rfl rfl) ?_
  refine s_val rfl rfl (v_load1 rfl rfl Tryz.underlying9 rfl (cx.cell 0 rfl rfl)) ?_
  refine s_fnB cx (c44 c _ (by omega)) Tryz.func44 rfl rfl rfl rfl rfl rfl ?_; intro q23 w cx hw23 hp23
  obtain rfl : q23 = true := hp23.trans hv
  refine s_val rfl rfl (v_not rfl rfl) ?_
  refine wpList_nil ?_
  refine wp_cond_false (show (St _ _).eval _ = _ by rw [eval_St]; rfl) ?_
  refine wp_skip ?_
  refine wp_seq ?_
  refine wp_seq ?_
  refine wp_region_lit ?_
  refine s_val rfl rfl (v_fa fa83_4 rfl rfl) ?_
  refine s_val rfl rfl (v_load1 rfl rfl Tryz.underlying9 rfl (cx.cell 0 rfl rfl)) ?_
  refine s_val rfl rfl (v_lenString rfl rfl Tryz.underlying9) ?_
  refine s_val rfl rfl (v_cmp rfl rfl rfl rfl) ?_
  refine s_val rfl rfl (v_move rfl rfl) ?_
  refine s_gval rfl rfl rfl (by first | exact w_ff rfl | exact w_gf rfl) (fun hc => v_fa fa83_5 rfl (by first | exact gve hc rfl | exact gve (and_l hc) rfl | exact gve (and_l (and_l hc)) rfl | rfl)) ?_
  refine s_gval rfl rfl rfl (by first | exact w_ff rfl | exact w_gf rfl) (fun hc => v_load1 rfl (by first | exact gve hc rfl | exact gve (and_l hc) rfl | exact gve (and_l (and_l hc)) rfl | rfl) Tryz.underlying79 rfl (cx.cell 0 rfl rfl)) ?_
  refine s_gval rfl rfl rfl (by first | exact w_ff rfl | exact w_gf rfl) (fun hc => v_lenSlice rfl (by first | exact gve hc rfl | exact gve (and_l hc) rfl | exact gve (and_l (and_l hc)) rfl | rfl) Tryz.underlying79) ?_
  refine s_gval rfl rfl rfl (by first | exact w_ff rfl | exact w_gf rfl) (fun hc => v_cmp rfl (by first | exact gve hc rfl | exact gve (and_l hc) rfl | exact gve (and_l (and_l hc)) rfl | rfl) rfl rfl) ?_
  refine s_val rfl rfl (v_or rfl rfl rfl rfl) ?_
  refine wpList_nil ?_
  refine c_split rfl (fun hc34 => ?_) (fun hc34 => ?_)
  · skip
    simp only [Bool.or_eq_true, decide_eq_true_eq] at hc34
    exfalso
    omega
  · skip
    try simp only [Bool.and_eq_true, Bool.or_eq_true, Bool.and_eq_false_iff, Bool.or_eq_false_iff, Bool.not_eq_true', Bool.not_eq_false', decide_eq_true_eq, decide_eq_false_iff_not, beq_iff_eq, beq_eq_false_iff_ne, bne_iff_ne, bne_eq_false_iff_eq, ne_eq, Classical.not_not] at hc34
    refine wp_skip ?_
    refine wp_seq ?_
    refine wp_region_lit ?_
    refine s_val rfl rfl (v_fa fa83_7 rfl rfl) ?_
    refine s_val rfl rfl (v_load1 rfl rfl Tryz.underlying81 rfl (cx.cell 0 rfl rfl)) ?_
    refine s_fn cx (call_of kys_k _) Tryz.func307 rfl rfl rfl rfl rfl rfl ?_; intro q37 w cx hw37 hp37
    subst hp37
    refine s_val rfl rfl (v_assign rfl rfl) ?_
    refine wpList_nil ?_
    refine wp_ret ?_
    refine ret_tmp Tryz.results228 rfl ?_
    exact ⟨cx.ext, rfl⟩
set_option maxHeartbeats 4000000 in
set_option maxRecDepth 10000 in
theorem c158 (c : ByteArray) (w0 : World) (hv : validD c.data.toList = true) (hc : c.size ≤ 1024) : Fc Tryz.prog 158 [.agg (leaf c).toArray, .int .i64 1, .int .i64 0] w0 (fun v _ => v = .tuple #[.int .i64 1, .int .i64 0]) := by
  refine ret_enter Tryz.func158 rfl Tryz.ntmps158 rfl ?_
  have cx := Ctx.start w0
  refine wp_seq ?_
  refine wp_region_lit ?_
  refine s_box cx rfl rfl rfl rfl rfl ?_; intro b3 w cx hb3 hw3
  refine s_val rfl rfl (v_assign rfl rfl) ?_
  refine s_val rfl rfl (v_assign rfl rfl) ?_
  refine wpList_nil ?_
  refine wp_seq ?_
  refine wp_seq ?_
  refine wp_region_lit ?_
  refine s_val rfl rfl (v_move rfl rfl) ?_
  refine s_val rfl rfl (v_cmp rfl rfl rfl rfl) ?_
  refine wpList_nil ?_
  refine wp_cond_false (show (St _ _).eval _ = _ by rw [eval_St]; rfl) ?_
  refine wp_skip ?_
  refine wp_seq ?_
  refine wp_seq ?_
  refine wp_region_lit ?_
  refine s_val rfl rfl (v_move rfl rfl) ?_
  refine s_val rfl rfl (v_cmp rfl rfl rfl rfl) ?_
  refine wpList_nil ?_
  refine wp_cond_false (show (St _ _).eval _ = _ by rw [eval_St]; rfl) ?_
  refine wp_skip ?_
  refine wp_seq ?_
  refine wp_seq ?_
  refine wp_region_lit ?_
  refine s_val rfl rfl (v_load rfl rfl Tryz.underlying83 rfl sz83 (cx.row 0 rfl) rfl) ?_
  refine s_fn cx (c228 c _ hv hc) Tryz.func228 rfl rfl rfl rfl rfl rfl ?_; intro q19 w cx hw19 hp19
  subst hp19
  refine s_val rfl rfl (v_assign rfl rfl) ?_
  refine wpList_nil ?_
  refine wp_seq ?_
  refine wp_region_lit ?_
  refine s_val rfl rfl (v_move rfl rfl) ?_
  refine s_val rfl rfl (v_cmp rfl rfl rfl rfl) ?_
  refine wpList_nil ?_
  refine wp_cond_false (show (St _ _).eval _ = _ by rw [eval_St]; rfl) ?_
  refine wp_skip ?_
  refine wp_seq ?_
  refine wp_region_lit ?_
  refine s_val rfl rfl (v_move rfl rfl) ?_
  refine s_val rfl rfl (v_add rfl rfl rfl (by omega) (by omega)) ?_
  refine s_val rfl rfl (v_assign rfl rfl) ?_
  refine wpList_nil ?_
  refine wp_seq ?_
  refine wp_region_lit ?_
  refine s_val rfl rfl (v_load rfl rfl Tryz.underlying83 rfl sz83 (cx.row 0 rfl) rfl) ?_
  refine s_fn cx (c229 c _) Tryz.func229 rfl rfl rfl rfl rfl rfl ?_; intro q27 w cx hw27 hp27
  subst hp27
  refine s_val rfl rfl (v_assign rfl rfl) ?_
  refine wpList_nil ?_
  refine wp_seq ?_
  refine wp_seq ?_
  refine wp_region_lit ?_
  refine s_val rfl rfl (v_assign rfl rfl) ?_
  refine wpList_nil ?_
  refine wp_block ?_
  refine w_loop (fun k f w1 => f 2 = .int .i64 1 ∧ f 9 = .slice none 0 0 ∧ f 10 = .int .i64 0 ∧ Ctx w0 w1 []) (0) ?_ ?_
  · skip
    exact ⟨rfl, rfl, rfl, Ctx.sub0 cx⟩
  intro gk11 f w hJ
  obtain ⟨hs2, hs9, hs10, cx⟩ := hJ
  refine wp_seq ?_
  refine wp_seq ?_
  refine wp_region_lit ?_
  refine s_val rfl rfl (v_move rfl hs10) ?_
  refine s_val rfl rfl (v_move rfl hs9) ?_
  refine s_val rfl rfl (v_lenSlice rfl rfl Tryz.underlying80) ?_
  refine s_val rfl rfl (v_cmp rfl rfl rfl rfl) ?_
  refine wpList_nil ?_
  refine wp_cond_false (show (St _ _).eval _ = _ by rw [eval_St]; rfl) ?_
  refine wp_exit ?_
  refine wp_seq ?_
  refine wp_region_lit ?_
  refine s_val rfl rfl (v_move rfl hs2) ?_
  refine s_val rfl rfl (v_assign rfl rfl) ?_
  refine s_val rfl rfl (v_assign rfl rfl) ?_
  refine wpList_nil ?_
  refine wp_ret ?_
  refine ret_tmp2 Tryz.results158 rfl rfl ?_
  exact ⟨cx.ext, rfl⟩
set_option maxHeartbeats 4000000 in
set_option maxRecDepth 10000 in
theorem c100 (c : ByteArray) (w0 : World) (hv : validD c.data.toList = true) (hc : c.size ≤ 1024) : Fc Tryz.prog 100 [.agg (leaf c).toArray] w0 (fun v _ => v = .int .i64 0) := by
  refine ret_enter Tryz.func100 rfl Tryz.ntmps100 rfl ?_
  have cx := Ctx.start w0
  refine wp_seq ?_
  refine wp_region_lit ?_
  refine s_box cx rfl rfl rfl rfl rfl ?_; intro b1 w cx hb1 hw1
  refine s_val rfl rfl (v_assign rfl rfl) ?_
  refine wpList_nil ?_
  refine wp_seq ?_
  refine wp_region_lit ?_
  refine s_val rfl rfl (v_load rfl rfl Tryz.underlying83 rfl sz83 (cx.row 0 rfl) rfl) ?_
  refine s_fn cx (c158 c _ hv hc) Tryz.func158 rfl rfl rfl rfl rfl rfl ?_; intro q7 w cx hw7 hp7
  subst hp7
  refine s_val rfl rfl (v_move rfl rfl) ?_
  refine s_val rfl rfl (v_extract rfl rfl rfl) ?_
  refine s_val rfl rfl (v_extract rfl rfl rfl) ?_
  refine s_val rfl rfl (v_assign rfl rfl) ?_
  refine s_val rfl rfl (v_assign rfl rfl) ?_
  refine wpList_nil ?_
  refine wp_seq ?_
  refine wp_region_lit ?_
  refine s_val rfl rfl (v_move rfl rfl) ?_
  refine s_val rfl rfl (v_assign rfl rfl) ?_
  refine wpList_nil ?_
  refine wp_ret ?_
  refine ret_tmp Tryz.results100 rfl ?_
  exact ⟨cx.ext, rfl⟩
set_option maxHeartbeats 4000000 in
set_option maxRecDepth 10000 in
theorem c160 (s : ByteArray) (w0 : World) (hs : s.size ≤ 1073741824) : Fc Tryz.prog 160 [.string s] w0 (fun v _ => v = .string (bs (cqt s))) := by
  refine ret_enter Tryz.func160 rfl Tryz.ntmps160 rfl ?_
  have cx := Ctx.start w0
  refine wp_seq ?_
  refine wp_region_lit ?_
  refine s_val rfl rfl (v_assign rfl rfl) ?_
  refine wpList_nil ?_
  refine wp_seq ?_
  refine wp_region_lit ?_
  refine s_bsl1 cx Tryz.underlying79 sz5 z5 rfl rfl rfl rfl rfl rfl rfl rfl ?_; intro b5 w cx hb5 hw5
  replace cx := Cxr.toRow (size := 1) (k := 1) cx rfl (by decide)
  refine s_val rfl rfl (v_assign rfl rfl) ?_
  refine wpList_nil ?_
  refine wp_seq ?_
  refine wp_seq ?_
  refine wp_region_lit ?_
  refine s_val rfl rfl (v_assign rfl rfl) ?_
  refine wpList_nil ?_
  refine wp_block ?_
  refine w_loop (fun k f w1 => ∃ (i : Nat) (v : Value), k + i = s.size ∧ f 0 = .string s ∧ f 4 = .int .i64 i ∧ f 3 = v ∧ Cxr w0 w1 [] [⟨5, 1, v, 1 + (qtq (s.data.toList.take i)).length, (34 :: qtq (s.data.toList.take i)).map bv⟩]) (s.size) ?_ ?_
  · skip
    exact ⟨0, _, by omega, rfl, rfl, rfl, cx.row_eq rfl rfl⟩
  intro gk3 f w hJ
  obtain ⟨i, v, hk, hs0, hs4, hs3, cx⟩ := hJ
  have hlq := qtq_len (s.data.toList.take i)
  have hlt := List.length_take_le i s.data.toList
  have hls : s.data.toList.length = s.size := by simp
  have hlx := sgq_len (UInt8.ofNat (byteAt s (i : Int)).toNat)
  refine wp_seq ?_
  refine wp_seq ?_
  refine wp_region_lit ?_
  refine s_val rfl rfl (v_move rfl hs4) ?_
  refine s_val rfl rfl (v_move rfl hs0) ?_
  refine s_val rfl rfl (v_lenString rfl rfl Tryz.underlying9) ?_
  refine s_val rfl rfl (v_cmp rfl rfl rfl rfl) ?_
  refine wpList_nil ?_
  refine c_split rfl (fun hc9 => ?_) (fun hc9 => ?_)
  · skip
    try simp only [Bool.and_eq_true, Bool.or_eq_true, Bool.and_eq_false_iff, Bool.or_eq_false_iff, Bool.not_eq_true', Bool.not_eq_false', decide_eq_true_eq, decide_eq_false_iff_not, beq_iff_eq, beq_eq_false_iff_ne, bne_iff_ne, bne_eq_false_iff_eq, ne_eq, Classical.not_not] at hc9
    refine wp_skip ?_
    refine wp_seq ?_
    refine wp_block ?_
    refine wp_region_lit ?_
    refine s_val rfl rfl (v_move rfl hs3) ?_
    refine s_val rfl rfl (v_move rfl hs0) ?_
    refine s_val rfl rfl (v_move rfl hs4) ?_
    refine s_val rfl rfl (v_idxStr rfl rfl rfl Tryz.underlying9 (by omega) (by omega)) ?_
    refine s_fn cx (c232 _ _ (byteAt_lo _ _) (byteAt_hi _ _)) Tryz.func232 rfl rfl rfl rfl rfl rfl ?_; intro q16 w cx hw16 hp16
    subst hp16
    refine s_appendB cx ei8 Tryz.underlying79 Tryz.underlying9 rfl rfl rfl rfl rfl (by omega) ?_; intro v17 w cx hgr17
    refine s_val rfl rfl (v_assign rfl rfl) ?_
    refine wpList_nil ?_
    refine wp_region_lit ?_
    refine s_val rfl rfl (v_move rfl hs4) ?_
    refine s_val rfl rfl (v_add rfl rfl rfl (by omega) (by omega)) ?_
    refine s_val rfl rfl (v_assign rfl rfl) ?_
    refine wpList_nil ?_
    have hq := qtq_take s i (by omega)
    have hb : UInt8.ofNat (byteAt s i).toNat = s.data.toList.getD i 0 := by unfold byteAt; rw [Int.toNat_natCast, Int.toNat_natCast]; exact UInt8.ofNat_toNat
    rw [← hb] at hq
    exact ⟨gk3 - 1, _, by omega, rfl, i + 1, _, by omega, hs0, rfl, rfl, row_next cx hq rfl rfl⟩
  · skip
    try simp only [Bool.and_eq_true, Bool.or_eq_true, Bool.and_eq_false_iff, Bool.or_eq_false_iff, Bool.not_eq_true', Bool.not_eq_false', decide_eq_true_eq, decide_eq_false_iff_not, beq_iff_eq, beq_eq_false_iff_ne, bne_iff_ne, bne_eq_false_iff_eq, ne_eq, Classical.not_not] at hc9
    refine wp_exit ?_
    refine wp_seq ?_
    refine wp_region_lit ?_
    refine s_val rfl rfl (v_move rfl hs3) ?_
    refine s_bsl1 cx Tryz.underlying79 sz5 z5 rfl rfl rfl rfl rfl rfl rfl rfl ?_; intro b19 w cx hb19 hw19
    refine s_append cx ei5 Tryz.underlying79 rfl rfl rfl rfl rfl (cx.row 0 rfl) rfl rfl (by omega) ?_; intro v20 w cx hgr20
    replace cx := cx.drop 1
    have hq1 : i = s.size := by omega
    subst hq1
    rw [show s.data.toList.take s.size = s.data.toList from List.take_of_length_le (by simp)] at cx
    replace cx := row_next (q' := qtq s.data.toList ++ [34]) (sg := [34]) cx rfl (by simp only [List.length_cons, List.length_nil] <;> omega) rfl
    obtain ⟨g20, c20, rfl, hrow20⟩ := cx.bytes (l := 34 :: (qtq s.data.toList ++ [34])) (by simp only [List.length_append, List.length_cons, List.length_nil] <;> omega) rfl (by omega)
    refine s_val rfl rfl (v_assign rfl rfl) ?_
    refine wpList_nil ?_
    refine wp_seq ?_
    refine wp_region_lit ?_
    refine s_val rfl rfl (v_move rfl rfl) ?_
    refine s_val rfl rfl (v_b2s rfl Tryz.underlying79 Tryz.underlying5 Tryz.underlying9 (ns := (34 :: (qtq s.data.toList ++ [34])).map fun x : UInt8 => (x.toNat : Int)) (by rw [List.map_map]; exact hrow20) (by simp only [List.length_map, List.length_append, List.length_cons, List.length_nil] <;> omega) rfl) ?_
    refine s_val rfl rfl (v_assign rfl rfl) ?_
    refine wpList_nil ?_
    refine wp_ret ?_
    refine ret_tmp Tryz.results160 rfl ?_
    refine ⟨cx.ext, ?_⟩
    exact congrArg Value.string (strOf_bs (34 :: (qtq s.data.toList ++ [34])))
set_option maxHeartbeats 4000000 in
set_option maxRecDepth 10000 in
theorem c101 (c : ByteArray) (w0 : World) (hc : c.size ≤ 1024) : Fc Tryz.prog 101 [.agg (leaf c).toArray] w0 (fun v _ => v = .string (bs (cqt c))) := by
  refine ret_enter Tryz.func101 rfl Tryz.ntmps101 rfl ?_
  have cx := Ctx.start w0
  refine wp_seq ?_
  refine wp_region_lit ?_
  refine s_box cx rfl rfl rfl rfl rfl ?_; intro b1 w cx hb1 hw1
  refine s_val rfl rfl (v_assign rfl rfl) ?_
  refine wpList_nil ?_
  refine wp_seq ?_
  refine wp_seq ?_
  refine wp_region_lit ?_
  refine s_val rfl rfl (v_fa fa83_0 rfl rfl) ?_
  refine s_val rfl rfl (v_load1 rfl rfl Tryz.underlying3 rfl (cx.cell 0 rfl rfl)) ?_
  refine wpList_nil ?_
  refine wp_block ?_
  refine wp_seq ?_
  refine wp_region_lit ?_
  refine s_val rfl rfl (v_cmp rfl rfl rfl rfl) ?_
  refine s_val rfl rfl (v_assign rfl rfl) ?_
  refine wpList_nil ?_
  refine wp_cond_false (show (St _ _).eval _ = _ by rw [eval_St]; rfl) ?_
  refine wp_seq ?_
  refine wp_region_lit ?_
  refine s_val rfl rfl (v_cmp rfl rfl rfl rfl) ?_
  refine s_val rfl rfl (v_assign rfl rfl) ?_
  refine wpList_nil ?_
  refine wp_cond_false (show (St _ _).eval _ = _ by rw [eval_St]; rfl) ?_
  refine wp_seq ?_
  refine wp_region_lit ?_
  refine s_val rfl rfl (v_cmp rfl rfl rfl rfl) ?_
  refine s_val rfl rfl (v_assign rfl rfl) ?_
  refine wpList_nil ?_
  refine wp_cond_false (show (St _ _).eval _ = _ by rw [eval_St]; rfl) ?_
  refine wp_seq ?_
  refine wp_region_lit ?_
  refine s_val rfl rfl (v_cmp rfl rfl rfl rfl) ?_
  refine s_val rfl rfl (v_assign rfl rfl) ?_
  refine wpList_nil ?_
  refine wp_cond_false (show (St _ _).eval _ = _ by rw [eval_St]; rfl) ?_
  refine wp_seq ?_
  refine wp_region_lit ?_
  refine s_val rfl rfl (v_cmp rfl rfl rfl rfl) ?_
  refine s_val rfl rfl (v_assign rfl rfl) ?_
  refine wpList_nil ?_
  refine wp_cond_true (show (St _ _).eval _ = _ by rw [eval_St]; rfl) ?_
  refine wp_seq ?_
  refine wp_region_lit ?_
  refine s_val rfl rfl (v_fa fa83_4 rfl rfl) ?_
  refine s_val rfl rfl (v_load1 rfl rfl Tryz.underlying9 rfl (cx.cell 0 rfl rfl)) ?_
  refine s_fn cx (c160 c _ (by omega)) Tryz.func160 rfl rfl rfl rfl rfl rfl ?_; intro q32 w cx hw32 hp32
  subst hp32
  refine s_val rfl rfl (v_assign rfl rfl) ?_
  refine wpList_nil ?_
  refine wp_ret ?_
  refine ret_tmp Tryz.results101 rfl ?_
  exact ⟨cx.ext, rfl⟩
set_option maxHeartbeats 4000000 in
set_option maxRecDepth 10000 in
theorem c51 (c : ByteArray) (w0 : World) (hv : validD c.data.toList = true) (hc : c.size ≤ 1024) : Fc Tryz.prog 51 [.agg (leaf c).toArray] w0 (fun v _ => v = .tuple #[.string (bs (cqt c)), .int .i64 0]) := by
  refine ret_enter Tryz.func51 rfl Tryz.ntmps51 rfl ?_
  have cx := Ctx.start w0
  refine wp_seq ?_
  refine wp_region_lit ?_
  refine s_box cx rfl rfl rfl rfl rfl ?_; intro b1 w cx hb1 hw1
  refine s_val rfl rfl (v_assign rfl rfl) ?_
  refine s_val rfl rfl (v_assign rfl rfl) ?_
  refine wpList_nil ?_
  refine wp_seq ?_
  refine wp_seq ?_
  refine wp_region_lit ?_
  refine s_val rfl rfl (v_load rfl rfl Tryz.underlying83 rfl sz83 (cx.row 0 rfl) rfl) ?_
  refine s_fn cx (c100 c _ hv hc) Tryz.func100 rfl rfl rfl rfl rfl rfl ?_; intro q6 w cx hw6 hp6
  subst hp6
  refine s_val rfl rfl (v_assign rfl rfl) ?_
  refine wpList_nil ?_
  refine wp_seq ?_
  refine wp_region_lit ?_
  refine s_val rfl rfl (v_move rfl rfl) ?_
  refine s_val rfl rfl (v_cmp rfl rfl rfl rfl) ?_
  refine wpList_nil ?_
  refine wp_cond_false (show (St _ _).eval _ = _ by rw [eval_St]; rfl) ?_
  refine wp_skip ?_
  refine wp_seq ?_
  refine wp_region_lit ?_
  refine s_val rfl rfl (v_load rfl rfl Tryz.underlying83 rfl sz83 (cx.row 0 rfl) rfl) ?_
  refine s_fn cx (c101 c _ hc) Tryz.func101 rfl rfl rfl rfl rfl rfl ?_; intro q11 w cx hw11 hp11
  subst hp11
  refine s_val rfl rfl (v_assign rfl rfl) ?_
  refine s_val rfl rfl (v_assign rfl rfl) ?_
  refine wpList_nil ?_
  refine wp_ret ?_
  refine ret_tmp2 Tryz.results51 rfl rfl ?_
  exact ⟨cx.ext, rfl⟩
end Go.Proofs.YthiafbkolhnadaaGreatDoor
end
section
set_option linter.unusedSimpArgs false
set_option linter.unusedVariables false
namespace Go.Proofs.YthiafbkolhnadaaGreatDoor
open Go Go.Dk Go.RowKit Go.Lib
attribute [local irreducible] Go.wpList Go.Code.wp Go.bodyPost Go.wpStill
set_option maxHeartbeats 4000000 in
set_option maxRecDepth 10000 in
theorem c39 (v : Value) (l : List ByteArray) (w0 : World) (hv : Cls w0 v l) (ht : Tabs w0) (hl : l.length ≤ 140737488355328) (hsz : ∀ c ∈ l, c.size ≤ 1073741824) : Fc Tryz.prog 39 [v] w0 (IsI fun m => m = colsE l) := by
  obtain ⟨a, c, b, o, rfl, ha, hr⟩ := hv.form
  refine ret_enter Tryz.func39 rfl Tryz.ntmps39 rfl ?_
  have cx := Ctx.start w0
  refine wp_seq ?_
  refine wp_region_lit ?_
  refine s_val rfl rfl (v_assign rfl rfl) ?_
  refine wpList_nil ?_
  refine wp_seq ?_
  refine wp_seq ?_
  refine wp_region_lit ?_
  refine s_val rfl rfl (v_move rfl rfl) ?_
  refine s_val rfl rfl (v_lenSlice rfl rfl Tryz.underlying33) ?_
  refine s_val rfl rfl (v_move rfl rfl) ?_
  refine wpList_nil ?_
  refine wp_block ?_
  refine w_loop (fun k f w1 => ∃ i : Nat, k + i = l.length ∧ f 0 = .slice a l.length c ∧ f 8 = .slice a l.length c ∧ f 9 = .int .i64 l.length ∧ f 10 = .int .i64 i ∧ (∀ x ∈ l.take i, ¬ colBad x) ∧ Ctx w0 w1 []) (l.length) ?_ ?_
  · skip
    exact ⟨0, by omega, rfl, rfl, rfl, rfl, by simp, cx⟩
  intro gk2 f w hJ
  obtain ⟨i, hk, hs0, hs8, hs9, hs10, hall, cx⟩ := hJ
  refine wp_seq ?_
  refine wp_region_lit ?_
  refine s_val rfl rfl (v_cmp rfl hs10 hs9 rfl) ?_
  refine wpList_nil ?_
  refine wp_seq ?_
  refine c_split rfl (fun hc11 => ?_) (fun hc11 => ?_)
  · skip
    try simp only [Bool.and_eq_true, Bool.or_eq_true, Bool.and_eq_false_iff, Bool.or_eq_false_iff, Bool.not_eq_true', Bool.not_eq_false', decide_eq_true_eq, decide_eq_false_iff_not, beq_iff_eq, beq_eq_false_iff_ne, bne_iff_ne, bne_eq_false_iff_eq, ne_eq, Classical.not_not] at hc11
    obtain ⟨x, hx⟩ : ∃ x, l[i]? = some x := ⟨l[i]'(by omega), List.getElem?_eq_getElem _⟩
    have hrw := hr i x hx
    obtain rfl := ha (by omega)
    refine wp_skip ?_
    refine wp_seq ?_
    refine wp_block ?_
    refine wp_seq ?_
    refine wp_region_lit ?_
    refine s_val rfl rfl (v_ia Tryz.underlying33 sz9 rfl hs8 hs10 (by omega) (by omega)) ?_
    refine s_val rfl rfl (v_load1 rfl rfl Tryz.underlying9 rfl ((hrw.up cx.ext).cell 0 rfl)) ?_
    refine s_val rfl rfl (v_assign rfl rfl) ?_
    refine wpList_nil ?_
    refine wp_seq ?_
    refine wp_region_lit ?_
    refine s_val rfl rfl (v_move rfl rfl) ?_
    refine s_fnB cx (c91 x _ (ht.up cx.ext) (by have := hsz x (List.mem_of_getElem? hx); omega)) Tryz.func91 rfl rfl rfl rfl rfl rfl ?_; intro q15 w cx hw15 hp15
    refine s_val rfl rfl (v_not rfl rfl) ?_
    refine s_val rfl rfl (v_move rfl rfl) ?_
    refine s_gval rfl rfl rfl (by first | exact w_ff rfl | exact w_gf rfl) (fun hc => v_move rfl (by first | exact gve hc rfl | exact gve (and_l hc) rfl | exact gve (and_l (and_l hc)) rfl | rfl)) ?_
    refine s_gval rfl rfl rfl (by first | exact w_ff rfl | exact w_gf rfl) (fun hc => v_lenString rfl (by first | exact gve hc rfl | exact gve (and_l hc) rfl | exact gve (and_l (and_l hc)) rfl | rfl) Tryz.underlying9) ?_
    refine s_gval rfl rfl rfl (by first | exact w_ff rfl | exact w_gf rfl) (fun hc => v_cmp rfl (by first | exact gve hc rfl | exact gve (and_l hc) rfl | exact gve (and_l (and_l hc)) rfl | rfl) rfl rfl) ?_
    refine s_val rfl rfl (v_or rfl rfl rfl rfl) ?_
    refine wpList_nil ?_
    refine c_split rfl (fun hc21 => ?_) (fun hc21 => ?_)
    · skip
      try simp only [Bool.and_eq_true, Bool.or_eq_true, Bool.and_eq_false_iff, Bool.or_eq_false_iff, Bool.not_eq_true', Bool.not_eq_false', decide_eq_true_eq, decide_eq_false_iff_not, beq_iff_eq, beq_eq_false_iff_ne, bne_iff_ne, bne_eq_false_iff_eq, ne_eq, Classical.not_not] at hc21
      have hb : colBad x := by
        unfold colBad
        rcases hc21 with h | h
        · left; rw [← hp15]; exact h
        · right; omega
      refine wp_seq ?_
      refine wp_region_lit ?_
      refine s_val rfl rfl (v_assign rfl rfl) ?_
      refine wpList_nil ?_
      refine wp_ret ?_
      refine ret_tmp Tryz.results39 rfl ?_
      refine ⟨cx.ext, _, rfl, ?_⟩
      exact (colsE_1 hx hb).symm
    · skip
      try simp only [Bool.and_eq_true, Bool.or_eq_true, Bool.and_eq_false_iff, Bool.or_eq_false_iff, Bool.not_eq_true', Bool.not_eq_false', decide_eq_true_eq, decide_eq_false_iff_not, beq_iff_eq, beq_eq_false_iff_ne, bne_iff_ne, bne_eq_false_iff_eq, ne_eq, Classical.not_not] at hc21
      have hcB : validD x.data.toList = true ∧ x.size ≤ 1024 := by
        refine ⟨?_, by omega⟩
        rw [← hp15]
        exact hc21.1
      refine wp_skip ?_
      refine wp_region_lit ?_
      refine s_val rfl rfl (v_add rfl hs10 rfl (by omega) (by omega)) ?_
      refine s_val rfl rfl (v_move rfl rfl) ?_
      refine wpList_nil ?_
      refine ⟨gk2 - 1, _, by omega, rfl, i + 1, by omega, hs0, hs8, hs9, rfl, fun y hy => ?_, cx⟩
      rcases mem_take_succ hx hy with h | rfl
      · exact hall y h
      · unfold colBad
        rintro (h | h)
        · rw [hcB.1] at h; cases h
        · have := hcB.2; omega
  · skip
    try simp only [Bool.and_eq_true, Bool.or_eq_true, Bool.and_eq_false_iff, Bool.or_eq_false_iff, Bool.not_eq_true', Bool.not_eq_false', decide_eq_true_eq, decide_eq_false_iff_not, beq_iff_eq, beq_eq_false_iff_ne, bne_iff_ne, bne_eq_false_iff_eq, ne_eq, Classical.not_not] at hc11
    have hi0 : i = l.length := by omega
    subst hi0
    rw [List.take_length] at hall
    refine wp_exit ?_
    refine wp_seq ?_
    refine wp_region_lit ?_
    refine s_makeMap cx rfl rfl rfl ?_; intro b23 w cx hb23 hw23
    refine s_val rfl rfl (v_assign rfl rfl) ?_
    refine wpList_nil ?_
    refine wp_seq ?_
    refine wp_seq ?_
    refine wp_region_lit ?_
    refine s_val rfl rfl (v_move rfl hs0) ?_
    refine s_val rfl rfl (v_lenSlice rfl rfl Tryz.underlying33) ?_
    refine s_val rfl rfl (v_move rfl rfl) ?_
    refine wpList_nil ?_
    refine wp_block ?_
    refine w_loop (fun k f w1 => ∃ (i b23 : Nat), k + i = l.length ∧ f 5 = .map (some b23) ∧ f 24 = .slice a l.length c ∧ f 25 = .int .i64 l.length ∧ f 26 = .int .i64 i ∧ (l.take i).Nodup ∧ Ctx w0 w1 [(b23, .map (ents (l.take i) tt 0).toArray (l.take i).length)]) (l.length) ?_ ?_
    · skip
      exact ⟨0, b23, by omega, rfl, rfl, rfl, rfl, by simp, cx⟩
    intro gk9 f w hJ
    obtain ⟨i, b23, hk, hs5, hs24, hs25, hs26, hnod, cx⟩ := hJ
    refine wp_seq ?_
    refine wp_region_lit ?_
    refine s_val rfl rfl (v_cmp rfl hs26 hs25 rfl) ?_
    refine wpList_nil ?_
    refine wp_seq ?_
    refine c_split rfl (fun hc27 => ?_) (fun hc27 => ?_)
    · skip
      try simp only [Bool.and_eq_true, Bool.or_eq_true, Bool.and_eq_false_iff, Bool.or_eq_false_iff, Bool.not_eq_true', Bool.not_eq_false', decide_eq_true_eq, decide_eq_false_iff_not, beq_iff_eq, beq_eq_false_iff_ne, bne_iff_ne, bne_eq_false_iff_eq, ne_eq, Classical.not_not] at hc27
      obtain ⟨x, hx⟩ : ∃ x, l[i]? = some x := ⟨l[i]'(by omega), List.getElem?_eq_getElem _⟩
      have hrw := hr i x hx
      obtain rfl := ha (by omega)
      refine wp_skip ?_
      refine wp_seq ?_
      refine wp_block ?_
      refine wp_seq ?_
      refine wp_region_lit ?_
      refine s_val rfl rfl (v_ia Tryz.underlying33 sz9 rfl hs24 hs26 (by omega) (by omega)) ?_
      refine s_val rfl rfl (v_load1 rfl rfl Tryz.underlying9 rfl ((hrw.up cx.ext).cell 0 rfl)) ?_
      refine s_val rfl rfl (v_assign rfl rfl) ?_
      refine wpList_nil ?_
      refine wp_seq ?_
      refine wp_seq ?_
      refine wp_region_lit ?_
      refine s_val rfl rfl (v_move rfl hs5) ?_
      refine s_val rfl rfl (v_move rfl rfl) ?_
      refine s_val rfl rfl (v_lookupT rfl rfl rfl Tryz.underlying102 Tryz.underlying9 (Tryz.zeroValue4 _) (cx.at 0 rfl)) ?_
      refine wpList_nil ?_
      refine c_split rfl (fun hc32 => ?_) (fun hc32 => ?_)
      · skip
        try simp only [Bool.and_eq_true, Bool.or_eq_true, Bool.and_eq_false_iff, Bool.or_eq_false_iff, Bool.not_eq_true', Bool.not_eq_false', decide_eq_true_eq, decide_eq_false_iff_not, beq_iff_eq, beq_eq_false_iff_ne, bne_iff_ne, bne_eq_false_iff_eq, ne_eq, Classical.not_not] at hc32
        refine wp_seq ?_
        refine wp_region_lit ?_
        refine s_val rfl rfl (v_assign rfl rfl) ?_
        refine wpList_nil ?_
        refine wp_ret ?_
        refine ret_tmp Tryz.results39 rfl ?_
        refine ⟨cx.ext, _, rfl, ?_⟩
        exact (colsE_8 hall hx (hasK_iff.1 hc32)).symm
      · skip
        try simp only [Bool.and_eq_true, Bool.or_eq_true, Bool.and_eq_false_iff, Bool.or_eq_false_iff, Bool.not_eq_true', Bool.not_eq_false', decide_eq_true_eq, decide_eq_false_iff_not, beq_iff_eq, beq_eq_false_iff_ne, bne_iff_ne, bne_eq_false_iff_eq, ne_eq, Classical.not_not] at hc32
        refine wp_skip ?_
        refine wp_region_lit ?_
        refine s_val rfl rfl (v_move rfl hs5) ?_
        refine s_val rfl rfl (v_move rfl rfl) ?_
        refine s_mapSetT cx 0 rfl rfl rfl rfl rfl rfl Tryz.underlying102 Tryz.underlying9 hnod rfl hc32 ?_; intro w cx hgr13
        refine wpList_nil ?_
        refine wp_region_lit ?_
        refine s_val rfl rfl (v_add rfl hs26 rfl (by omega) (by omega)) ?_
        refine s_val rfl rfl (v_move rfl rfl) ?_
        refine wpList_nil ?_
        have hnm := hasK_F hc32
        refine ⟨gk9 - 1, _, by omega, rfl, i + 1, b23, by omega, hs5, hs24, hs25, rfl, nodup_snoc hnod hx hnm, ?_⟩
        rw [take_snoc hx]
        exact cx
    · skip
      try simp only [Bool.and_eq_true, Bool.or_eq_true, Bool.and_eq_false_iff, Bool.or_eq_false_iff, Bool.not_eq_true', Bool.not_eq_false', decide_eq_true_eq, decide_eq_false_iff_not, beq_iff_eq, beq_eq_false_iff_ne, bne_iff_ne, bne_eq_false_iff_eq, ne_eq, Classical.not_not] at hc27
      refine wp_exit ?_
      refine wp_seq ?_
      refine wp_region_lit ?_
      refine s_val rfl rfl (v_assign rfl rfl) ?_
      refine wpList_nil ?_
      refine wp_ret ?_
      refine ret_tmp Tryz.results39 rfl ?_
      refine ⟨cx.ext, _, rfl, ?_⟩
      have hi1 : i = l.length := by omega
      subst hi1
      rw [List.take_length] at hnod
      exact (colsE_0 hall hnod).symm
set_option maxHeartbeats 4000000 in
set_option maxRecDepth 10000 in
theorem c42 (v : Value) (l : List ByteArray) (w0 : World) (hv : Cls w0 v l) (hl : l.length ≤ 140737488355328) (hsz : ∀ c ∈ l, c.size ≤ 1073741824) : Fc Tryz.prog 42 [v] w0 (IsI fun m => m = colsE l) := by
  obtain ⟨a, c, b, o, rfl, ha, hr⟩ := hv.form
  refine ret_enter Tryz.func42 rfl Tryz.ntmps42 rfl ?_
  have cx := Ctx.start w0
  refine wp_seq ?_
  refine wp_region_lit ?_
  refine s_val rfl rfl (v_assign rfl rfl) ?_
  refine wpList_nil ?_
  refine wp_seq ?_
  refine wp_seq ?_
  refine wp_region_lit ?_
  refine s_val rfl rfl (v_assign rfl rfl) ?_
  refine wpList_nil ?_
  refine wp_block ?_
  refine w_loop (fun k f w1 => ∃ i : Nat, k + i = l.length ∧ f 0 = .slice a l.length c ∧ f 3 = .int .i64 i ∧ (∀ x ∈ l.take i, ¬ colBad x) ∧ Ctx w0 w1 []) (l.length) ?_ ?_
  · skip
    exact ⟨0, by omega, rfl, rfl, by simp, cx⟩
  intro gk2 f w hJ
  obtain ⟨i, hk, hs0, hs3, hall, cx⟩ := hJ
  refine wp_seq ?_
  refine wp_seq ?_
  refine wp_region_lit ?_
  refine s_val rfl rfl (v_move rfl hs3) ?_
  refine s_val rfl rfl (v_move rfl hs0) ?_
  refine s_val rfl rfl (v_lenSlice rfl rfl Tryz.underlying33) ?_
  refine s_val rfl rfl (v_cmp rfl rfl rfl rfl) ?_
  refine wpList_nil ?_
  refine c_split rfl (fun hc9 => ?_) (fun hc9 => ?_)
  · skip
    try simp only [Bool.and_eq_true, Bool.or_eq_true, Bool.and_eq_false_iff, Bool.or_eq_false_iff, Bool.not_eq_true', Bool.not_eq_false', decide_eq_true_eq, decide_eq_false_iff_not, beq_iff_eq, beq_eq_false_iff_ne, bne_iff_ne, bne_eq_false_iff_eq, ne_eq, Classical.not_not] at hc9
    obtain ⟨x, hx⟩ : ∃ x, l[i]? = some x := ⟨l[i]'(by omega), List.getElem?_eq_getElem _⟩
    have hrw := hr i x hx
    obtain rfl := ha (by omega)
    refine wp_skip ?_
    refine wp_seq ?_
    refine wp_block ?_
    refine wp_seq ?_
    refine wp_region_lit ?_
    refine s_val rfl rfl (v_move rfl hs0) ?_
    refine s_val rfl rfl (v_move rfl hs3) ?_
    refine s_val rfl rfl (v_ia Tryz.underlying33 sz9 rfl rfl rfl (by omega) (by omega)) ?_
    refine s_val rfl rfl (v_load1 rfl rfl Tryz.underlying9 rfl ((hrw.up cx.ext).cell 0 rfl)) ?_
    refine s_fnB cx (c44 x _ (by have := hsz x (List.mem_of_getElem? hx); omega)) Tryz.func44 rfl rfl rfl rfl rfl rfl ?_; intro q16 w cx hw16 hp16
    refine s_val rfl rfl (v_not rfl rfl) ?_
    refine s_val rfl rfl (v_move rfl rfl) ?_
    refine s_gval rfl rfl rfl (by first | exact w_ff rfl | exact w_gf rfl) (fun hc => v_move rfl hs0) ?_
    refine s_gval rfl rfl rfl (by first | exact w_ff rfl | exact w_gf rfl) (fun hc => v_move rfl hs3) ?_
    refine s_gval rfl rfl rfl (by first | exact w_ff rfl | exact w_gf rfl) (fun hc => v_ia Tryz.underlying33 sz9 rfl (by first | exact gve hc rfl | exact gve (and_l hc) rfl | exact gve (and_l (and_l hc)) rfl | rfl) (by first | exact gve hc rfl | exact gve (and_l hc) rfl | exact gve (and_l (and_l hc)) rfl | rfl) (by first | omega | (simp only [Bool.and_eq_true, Bool.or_eq_true, Bool.and_eq_false_iff, Bool.or_eq_false_iff, Bool.not_eq_true', Bool.not_eq_false', decide_eq_true_eq, decide_eq_false_iff_not, beq_iff_eq, beq_eq_false_iff_ne, bne_iff_ne, bne_eq_false_iff_eq, ne_eq, Classical.not_not] at hc; omega)) (by first | omega | (simp only [Bool.and_eq_true, Bool.or_eq_true, Bool.and_eq_false_iff, Bool.or_eq_false_iff, Bool.not_eq_true', Bool.not_eq_false', decide_eq_true_eq, decide_eq_false_iff_not, beq_iff_eq, beq_eq_false_iff_ne, bne_iff_ne, bne_eq_false_iff_eq, ne_eq, Classical.not_not] at hc; omega))) ?_
    refine s_gval rfl rfl rfl (by first | exact w_ff rfl | exact w_gf rfl) (fun hc => v_load1 rfl (by first | exact gve hc rfl | exact gve (and_l hc) rfl | exact gve (and_l (and_l hc)) rfl | rfl) Tryz.underlying9 rfl ((hrw.up cx.ext).cell 0 rfl)) ?_
    refine s_gval rfl rfl rfl (by first | exact w_ff rfl | exact w_gf rfl) (fun hc => v_lenString rfl (by first | exact gve hc rfl | exact gve (and_l hc) rfl | exact gve (and_l (and_l hc)) rfl | rfl) Tryz.underlying9) ?_
    refine s_gval rfl rfl rfl (by first | exact w_ff rfl | exact w_gf rfl) (fun hc => v_cmp rfl (by first | exact gve hc rfl | exact gve (and_l hc) rfl | exact gve (and_l (and_l hc)) rfl | rfl) rfl rfl) ?_
    refine s_val rfl rfl (v_or rfl rfl rfl rfl) ?_
    refine wpList_nil ?_
    refine c_split rfl (fun hc25 => ?_) (fun hc25 => ?_)
    · skip
      try simp only [Bool.and_eq_true, Bool.or_eq_true, Bool.and_eq_false_iff, Bool.or_eq_false_iff, Bool.not_eq_true', Bool.not_eq_false', decide_eq_true_eq, decide_eq_false_iff_not, beq_iff_eq, beq_eq_false_iff_ne, bne_iff_ne, bne_eq_false_iff_eq, ne_eq, Classical.not_not] at hc25
      have hb : colBad x := by
        unfold colBad
        rcases hc25 with h | h
        · left; rw [← hp16]; exact h
        · right; omega
      refine wp_seq ?_
      refine wp_region_lit ?_
      refine s_val rfl rfl (v_assign rfl rfl) ?_
      refine wpList_nil ?_
      refine wp_ret ?_
      refine ret_tmp Tryz.results42 rfl ?_
      refine ⟨cx.ext, _, rfl, ?_⟩
      exact (colsE_1 hx hb).symm
    · skip
      try simp only [Bool.and_eq_true, Bool.or_eq_true, Bool.and_eq_false_iff, Bool.or_eq_false_iff, Bool.not_eq_true', Bool.not_eq_false', decide_eq_true_eq, decide_eq_false_iff_not, beq_iff_eq, beq_eq_false_iff_ne, bne_iff_ne, bne_eq_false_iff_eq, ne_eq, Classical.not_not] at hc25
      have hcB : validD x.data.toList = true ∧ x.size ≤ 1024 := by
        refine ⟨?_, by omega⟩
        rw [← hp16]
        exact hc25.1
      refine wp_skip ?_
      refine wp_region_lit ?_
      refine s_val rfl rfl (v_move rfl hs3) ?_
      refine s_val rfl rfl (v_add rfl rfl rfl (by omega) (by omega)) ?_
      refine s_val rfl rfl (v_assign rfl rfl) ?_
      refine wpList_nil ?_
      refine ⟨gk2 - 1, _, by omega, rfl, i + 1, by omega, hs0, rfl, fun y hy => ?_, cx⟩
      rcases mem_take_succ hx hy with h | rfl
      · exact hall y h
      · unfold colBad
        rintro (h | h)
        · rw [hcB.1] at h; cases h
        · have := hcB.2; omega
  · skip
    try simp only [Bool.and_eq_true, Bool.or_eq_true, Bool.and_eq_false_iff, Bool.or_eq_false_iff, Bool.not_eq_true', Bool.not_eq_false', decide_eq_true_eq, decide_eq_false_iff_not, beq_iff_eq, beq_eq_false_iff_ne, bne_iff_ne, bne_eq_false_iff_eq, ne_eq, Classical.not_not] at hc9
    have hi0 : i = l.length := by omega
    subst hi0
    rw [List.take_length] at hall
    refine wp_exit ?_
    refine wp_seq ?_
    refine wp_seq ?_
    refine wp_region_lit ?_
    refine s_val rfl rfl (v_assign rfl rfl) ?_
    refine wpList_nil ?_
    refine wp_block ?_
    refine w_loop (fun k f w1 => ∃ i : Nat, k + i = l.length ∧ f 0 = .slice a l.length c ∧ f 4 = .int .i64 i ∧ (l.take i).Nodup ∧ Ctx w0 w1 []) (l.length) ?_ ?_
    · skip
      exact ⟨0, by omega, hs0, rfl, by simp, cx⟩
    intro gk7 f w hJ
    obtain ⟨i, hk, hs0, hs4, hnod, cx⟩ := hJ
    refine wp_seq ?_
    refine wp_seq ?_
    refine wp_region_lit ?_
    refine s_val rfl rfl (v_move rfl hs4) ?_
    refine s_val rfl rfl (v_move rfl hs0) ?_
    refine s_val rfl rfl (v_lenSlice rfl rfl Tryz.underlying33) ?_
    refine s_val rfl rfl (v_cmp rfl rfl rfl rfl) ?_
    refine wpList_nil ?_
    refine c_split rfl (fun hc29 => ?_) (fun hc29 => ?_)
    · skip
      try simp only [Bool.and_eq_true, Bool.or_eq_true, Bool.and_eq_false_iff, Bool.or_eq_false_iff, Bool.not_eq_true', Bool.not_eq_false', decide_eq_true_eq, decide_eq_false_iff_not, beq_iff_eq, beq_eq_false_iff_ne, bne_iff_ne, bne_eq_false_iff_eq, ne_eq, Classical.not_not] at hc29
      obtain ⟨x, hx⟩ : ∃ x, l[i]? = some x := ⟨l[i]'(by omega), List.getElem?_eq_getElem _⟩
      have hrw := hr i x hx
      obtain rfl := ha (by omega)
      refine wp_skip ?_
      refine wp_seq ?_
      refine wp_block ?_
      refine wp_seq ?_
      refine wp_region_lit ?_
      refine s_val rfl rfl (v_assign rfl rfl) ?_
      refine wpList_nil ?_
      refine wp_block ?_
      refine w_loop (fun k f w1 => ∃ j : Nat, k + j = i ∧ f 0 = .slice (some ⟨b, o, none⟩) l.length c ∧ f 4 = .int .i64 i ∧ f 5 = .int .i64 j ∧ (∀ (n : Nat) y, n < j → l[n]? = some y → x ≠ y) ∧ Ctx w0 w1 []) (i) ?_ ?_
      · skip
        exact ⟨0, by omega, hs0, hs4, rfl, fun n y h => by omega, cx⟩
      intro gk10 f w hJ
      obtain ⟨j, hkj, hs0, hs4, hs5, hne, cx⟩ := hJ
      refine wp_seq ?_
      refine wp_seq ?_
      refine wp_region_lit ?_
      refine s_val rfl rfl (v_move rfl hs5) ?_
      refine s_val rfl rfl (v_move rfl hs4) ?_
      refine s_val rfl rfl (v_cmp rfl rfl rfl rfl) ?_
      refine wpList_nil ?_
      refine c_split rfl (fun hc34 => ?_) (fun hc34 => ?_)
      · skip
        try simp only [Bool.and_eq_true, Bool.or_eq_true, Bool.and_eq_false_iff, Bool.or_eq_false_iff, Bool.not_eq_true', Bool.not_eq_false', decide_eq_true_eq, decide_eq_false_iff_not, beq_iff_eq, beq_eq_false_iff_ne, bne_iff_ne, bne_eq_false_iff_eq, ne_eq, Classical.not_not] at hc34
        obtain ⟨y, hy⟩ : ∃ y, l[j]? = some y := ⟨l[j]'(by omega), List.getElem?_eq_getElem _⟩
        have hrw2 := hr j y hy
        refine wp_skip ?_
        refine wp_seq ?_
        refine wp_block ?_
        refine wp_seq ?_
        refine w_still cx mixed (by kernel_rfl) ?_; intro w cx hwD12
        refine t_val rfl rfl (v_move rfl hs0) ?_
        refine t_val rfl rfl (v_move rfl hs4) ?_
        refine t_val rfl rfl (v_ia Tryz.underlying33 sz9 rfl rfl rfl (by omega) (by omega)) ?_
        refine t_val rfl rfl (v_load1 rfl rfl Tryz.underlying9 rfl ((hrw.up cx.ext).cell 0 rfl)) ?_
        refine t_val rfl rfl (v_move rfl hs0) ?_
        refine t_val rfl rfl (v_move rfl hs5) ?_
        refine t_val rfl rfl (v_ia Tryz.underlying33 sz9 rfl rfl rfl (by omega) (by omega)) ?_
        refine t_val rfl rfl (v_load1 rfl rfl Tryz.underlying9 rfl ((hrw2.up cx.ext).cell 0 rfl)) ?_
        refine t_val rfl rfl (v_strEq rfl rfl rfl) ?_
        refine t_nil ?_
        refine c_split rfl (fun hc45 => ?_) (fun hc45 => ?_)
        · skip
          try simp only [Bool.and_eq_true, Bool.or_eq_true, Bool.and_eq_false_iff, Bool.or_eq_false_iff, Bool.not_eq_true', Bool.not_eq_false', decide_eq_true_eq, decide_eq_false_iff_not, beq_iff_eq, beq_eq_false_iff_ne, bne_iff_ne, bne_eq_false_iff_eq, ne_eq, Classical.not_not] at hc45
          refine wp_seq ?_
          refine wp_region_lit ?_
          refine s_val rfl rfl (v_assign rfl rfl) ?_
          refine wpList_nil ?_
          refine wp_ret ?_
          refine ret_tmp Tryz.results42 rfl ?_
          refine ⟨cx.ext, _, rfl, ?_⟩
          refine (colsE_8 hall hx ?_).symm
          rw [hc45]
          exact List.mem_of_getElem? (i := j) (by rw [List.getElem?_take, if_pos (by omega)]; exact hy)
        · skip
          try simp only [Bool.and_eq_true, Bool.or_eq_true, Bool.and_eq_false_iff, Bool.or_eq_false_iff, Bool.not_eq_true', Bool.not_eq_false', decide_eq_true_eq, decide_eq_false_iff_not, beq_iff_eq, beq_eq_false_iff_ne, bne_iff_ne, bne_eq_false_iff_eq, ne_eq, Classical.not_not] at hc45
          refine wp_skip ?_
          refine wp_region_lit ?_
          refine s_val rfl rfl (v_move rfl hs5) ?_
          refine s_val rfl rfl (v_add rfl rfl rfl (by omega) (by omega)) ?_
          refine s_val rfl rfl (v_assign rfl rfl) ?_
          refine wpList_nil ?_
          refine ⟨gk10 - 1, _, by omega, rfl, j + 1, by omega, hs0, hs4, rfl, fun n z hn hz => ?_, cx⟩
          rcases Nat.lt_or_ge n j with h | h
          · exact hne n z h hz
          · obtain rfl : n = j := by omega
            rw [hy] at hz; cases hz
            exact hc45
      · skip
        try simp only [Bool.and_eq_true, Bool.or_eq_true, Bool.and_eq_false_iff, Bool.or_eq_false_iff, Bool.not_eq_true', Bool.not_eq_false', decide_eq_true_eq, decide_eq_false_iff_not, beq_iff_eq, beq_eq_false_iff_ne, bne_iff_ne, bne_eq_false_iff_eq, ne_eq, Classical.not_not] at hc34
        refine wp_exit ?_
        refine wp_region_lit ?_
        refine s_val rfl rfl (v_move rfl hs4) ?_
        refine s_val rfl rfl (v_add rfl rfl rfl (by omega) (by omega)) ?_
        refine s_val rfl rfl (v_assign rfl rfl) ?_
        refine wpList_nil ?_
        have hnm : x ∉ l.take i := fun hm => by
          obtain ⟨n, hn⟩ := List.getElem?_of_mem hm
          rw [List.getElem?_take] at hn
          split at hn
          · exact hne n x (by omega) hn rfl
          · cases hn
        refine ⟨gk7 - 1, _, by omega, rfl, i + 1, by omega, hs0, rfl, nodup_snoc hnod hx hnm, cx⟩
    · skip
      try simp only [Bool.and_eq_true, Bool.or_eq_true, Bool.and_eq_false_iff, Bool.or_eq_false_iff, Bool.not_eq_true', Bool.not_eq_false', decide_eq_true_eq, decide_eq_false_iff_not, beq_iff_eq, beq_eq_false_iff_ne, bne_iff_ne, bne_eq_false_iff_eq, ne_eq, Classical.not_not] at hc29
      refine wp_exit ?_
      refine wp_seq ?_
      refine wp_region_lit ?_
      refine s_val rfl rfl (v_assign rfl rfl) ?_
      refine wpList_nil ?_
      refine wp_ret ?_
      refine ret_tmp Tryz.results42 rfl ?_
      refine ⟨cx.ext, _, rfl, ?_⟩
      have hi1 : i = l.length := by omega
      subst hi1
      rw [List.take_length] at hnod
      exact (colsE_0 hall hnod).symm
end Go.Proofs.YthiafbkolhnadaaGreatDoor
end
section
set_option linter.unusedSimpArgs false
set_option linter.unusedVariables false
namespace Go.Proofs.YthiafbkolhnadaaGreatDoor
open Go Go.Dk Go.RowKit Go.Lib
attribute [local irreducible] Go.wpList Go.Code.wp Go.bodyPost Go.wpStill Go.wpQuiet
structure Szd (x : Idx) : Prop where
  el : x.ents.length ≤ 1048576
  cl : x.cols.length ≤ 1048576
  csz : ∀ c ∈ x.cols, c.size ≤ 1073741824
  pl : ∀ e ∈ x.ents, e.path.length ≤ 1048576
noncomputable def keysT (l : List Ent) : List ByteArray := l.map fun y => bs (pathT y.path)
theorem keysT_snoc {l : List Ent} {i : Nat} {e : Ent} (h : l[i]? = some e) : keysT (l.take (i + 1)) = keysT (l.take i) ++ [bs (pathT e.path)] := by
  unfold keysT
  rw [take_snoc h, List.map_append]
  rfl
theorem nodup_keys {l : List ByteArray} {k : ByteArray} (hn : l.Nodup) (h : k ∉ l) : (l ++ [k]).Nodup := by
  refine List.nodup_append.2 ⟨hn, by simp, ?_⟩
  intro a ha b hb hab
  obtain rfl := List.mem_singleton.1 hb
  exact h (hab ▸ ha)
set_option maxHeartbeats 4000000 in
set_option maxRecDepth 10000 in
theorem c13 (r : List Value) (x : Idx) (w0 : World) (hx : IdxV w0 x r) (ht : Tabs w0) (hs : Szd x) : Fc Tryz.prog 13 [.agg r.toArray] w0 (IsI fun m => m = chkX x) := by
  obtain ⟨ve, vc, rfl, hE, hC⟩ := hx
  obtain ⟨a, c, b, o, rfl, ha, hr⟩ := hE.form
  obtain ⟨a2, c2, b2, o2, rfl, _, _⟩ := hC.form
  refine ret_enter Tryz.func13 rfl Tryz.ntmps13 rfl ?_
  have cx := Ctx.start w0
  refine wp_seq ?_
  refine wp_region_lit ?_
  refine s_box cx rfl rfl rfl rfl rfl ?_; intro b1 w cx hb1 hw1
  refine s_val rfl rfl (v_assign rfl rfl) ?_
  refine wpList_nil ?_
  refine wp_seq ?_
  refine wp_seq ?_
  refine wp_region_lit ?_
  refine s_val rfl rfl (v_fa fa35_0 rfl rfl) ?_
  refine s_val rfl rfl (v_load1 rfl rfl Tryz.underlying3 rfl (cx.cell 0 rfl rfl)) ?_
  refine s_val rfl rfl (v_cmp rfl rfl rfl rfl) ?_
  refine s_val rfl rfl (v_move rfl rfl) ?_
  refine s_gval rfl rfl rfl (by first | exact w_tt rfl | exact w_gt rfl) (fun hc => v_fa fa35_0 rfl (by first | exact gve hc rfl | exact gve (and_l hc) rfl | exact gve (and_l (and_l hc)) rfl | rfl)) ?_
  refine s_gval rfl rfl rfl (by first | exact w_tt rfl | exact w_gt rfl) (fun hc => v_load1 rfl (by first | exact gve hc rfl | exact gve (and_l hc) rfl | exact gve (and_l (and_l hc)) rfl | rfl) Tryz.underlying3 rfl (cx.cell 0 rfl rfl)) ?_
  refine s_gval rfl rfl rfl (by first | exact w_tt rfl | exact w_gt rfl) (fun hc => v_cmp rfl (by first | exact gve hc rfl | exact gve (and_l hc) rfl | exact gve (and_l (and_l hc)) rfl | rfl) rfl rfl) ?_
  refine s_val rfl rfl (v_and rfl rfl rfl rfl) ?_
  refine s_val rfl rfl (v_move rfl rfl) ?_
  refine s_gval rfl rfl rfl (by first | exact w_ff rfl | exact w_gf rfl) (fun hc => v_fa fa35_1 rfl (by first | exact gve hc rfl | exact gve (and_l hc) rfl | exact gve (and_l (and_l hc)) rfl | rfl)) ?_
  refine s_gval rfl rfl rfl (by first | exact w_ff rfl | exact w_gf rfl) (fun hc => v_load1 rfl (by first | exact gve hc rfl | exact gve (and_l hc) rfl | exact gve (and_l (and_l hc)) rfl | rfl) Tryz.underlying3 rfl (cx.cell 0 rfl rfl)) ?_
  refine s_gval rfl rfl rfl (by first | exact w_ff rfl | exact w_gf rfl) (fun hc => v_cmp rfl (by first | exact gve hc rfl | exact gve (and_l hc) rfl | exact gve (and_l (and_l hc)) rfl | rfl) rfl rfl) ?_
  refine s_val rfl rfl (v_or rfl rfl rfl rfl) ?_
  refine s_val rfl rfl (v_move rfl rfl) ?_
  refine s_gval rfl rfl rfl (by first | exact w_ff rfl | exact w_gf rfl) (fun hc => v_fa fa35_1 rfl (by first | exact gve hc rfl | exact gve (and_l hc) rfl | exact gve (and_l (and_l hc)) rfl | rfl)) ?_
  refine s_gval rfl rfl rfl (by first | exact w_ff rfl | exact w_gf rfl) (fun hc => v_load1 rfl (by first | exact gve hc rfl | exact gve (and_l hc) rfl | exact gve (and_l (and_l hc)) rfl | rfl) Tryz.underlying3 rfl (cx.cell 0 rfl rfl)) ?_
  refine s_gval rfl rfl rfl (by first | exact w_ff rfl | exact w_gf rfl) (fun hc => v_cmp rfl (by first | exact gve hc rfl | exact gve (and_l hc) rfl | exact gve (and_l (and_l hc)) rfl | rfl) rfl rfl) ?_
  refine s_val rfl rfl (v_or rfl rfl rfl rfl) ?_
  refine s_val rfl rfl (v_move rfl rfl) ?_
  refine s_gval rfl rfl rfl (by first | exact w_ff rfl | exact w_gf rfl) (fun hc => v_fa fa35_2 rfl (by first | exact gve hc rfl | exact gve (and_l hc) rfl | exact gve (and_l (and_l hc)) rfl | rfl)) ?_
  refine s_gval rfl rfl rfl (by first | exact w_ff rfl | exact w_gf rfl) (fun hc => v_load1 rfl (by first | exact gve hc rfl | exact gve (and_l hc) rfl | exact gve (and_l (and_l hc)) rfl | rfl) Tryz.underlying3 rfl (cx.cell 0 rfl rfl)) ?_
  refine s_gval rfl rfl rfl (by first | exact w_ff rfl | exact w_gf rfl) (fun hc => v_cmp rfl (by first | exact gve hc rfl | exact gve (and_l hc) rfl | exact gve (and_l (and_l hc)) rfl | rfl) rfl rfl) ?_
  refine s_val rfl rfl (v_or rfl rfl rfl rfl) ?_
  refine s_val rfl rfl (v_move rfl rfl) ?_
  refine s_gval rfl rfl rfl (by first | exact w_ff rfl | exact w_gf rfl) (fun hc => v_fa fa35_2 rfl (by first | exact gve hc rfl | exact gve (and_l hc) rfl | exact gve (and_l (and_l hc)) rfl | rfl)) ?_
  refine s_gval rfl rfl rfl (by first | exact w_ff rfl | exact w_gf rfl) (fun hc => v_load1 rfl (by first | exact gve hc rfl | exact gve (and_l hc) rfl | exact gve (and_l (and_l hc)) rfl | rfl) Tryz.underlying3 rfl (cx.cell 0 rfl rfl)) ?_
  refine s_gval rfl rfl rfl (by first | exact w_ff rfl | exact w_gf rfl) (fun hc => v_cmp rfl (by first | exact gve hc rfl | exact gve (and_l hc) rfl | exact gve (and_l (and_l hc)) rfl | rfl) rfl rfl) ?_
  refine s_val rfl rfl (v_or rfl rfl rfl rfl) ?_
  refine s_val rfl rfl (v_move rfl rfl) ?_
  refine s_gval rfl rfl rfl (by first | exact w_ff rfl | exact w_gf rfl) (fun hc => v_fa fa35_0 rfl (by first | exact gve hc rfl | exact gve (and_l hc) rfl | exact gve (and_l (and_l hc)) rfl | rfl)) ?_
  refine s_gval rfl rfl rfl (by first | exact w_ff rfl | exact w_gf rfl) (fun hc => v_load1 rfl (by first | exact gve hc rfl | exact gve (and_l hc) rfl | exact gve (and_l (and_l hc)) rfl | rfl) Tryz.underlying3 rfl (cx.cell 0 rfl rfl)) ?_
  refine s_gval rfl rfl rfl (by first | exact w_ff rfl | exact w_gf rfl) (fun hc => v_cmp rfl (by first | exact gve hc rfl | exact gve (and_l hc) rfl | exact gve (and_l (and_l hc)) rfl | rfl) rfl rfl) ?_
  refine s_gval rfl rfl rfl (by first | exact w_ff rfl | exact w_gf rfl) (fun hc => v_move rfl (by first | exact gve hc rfl | exact gve (and_l hc) rfl | exact gve (and_l (and_l hc)) rfl | rfl)) ?_
  refine s_gval rfl rfl rfl (by first | exact w_tt rfl | exact w_gt rfl) (fun hc => v_fa fa35_4 rfl (by first | exact gve hc rfl | exact gve (and_l hc) rfl | exact gve (and_l (and_l hc)) rfl | rfl)) ?_
  refine s_gval rfl rfl rfl (by first | exact w_tt rfl | exact w_gt rfl) (fun hc => v_load1 rfl (by first | exact gve hc rfl | exact gve (and_l hc) rfl | exact gve (and_l (and_l hc)) rfl | rfl) Tryz.underlying33 rfl (cx.cell 0 rfl rfl)) ?_
  refine s_gval rfl rfl rfl (by first | exact w_tt rfl | exact w_gt rfl) (fun hc => v_lenSlice rfl (by first | exact gve hc rfl | exact gve (and_l hc) rfl | exact gve (and_l (and_l hc)) rfl | rfl) Tryz.underlying33) ?_
  refine s_gval rfl rfl rfl (by first | exact w_tt rfl | exact w_gt rfl) (fun hc => v_cmp rfl (by first | exact gve hc rfl | exact gve (and_l hc) rfl | exact gve (and_l (and_l hc)) rfl | rfl) rfl rfl) ?_
  refine s_gval rfl rfl rfl (by first | exact w_ff rfl | exact w_gf rfl) (fun hc => v_and_g hc rfl rfl rfl rfl) ?_
  refine s_val rfl rfl (v_or rfl rfl rfl rfl) ?_
  refine wpList_nil ?_
  refine c_split rfl (fun hc47 => ?_) (fun hc47 => ?_)
  · skip
    try simp only [Bool.and_eq_true, Bool.or_eq_true, Bool.and_eq_false_iff, Bool.or_eq_false_iff, Bool.not_eq_true', Bool.not_eq_false', decide_eq_true_eq, decide_eq_false_iff_not, beq_iff_eq, beq_eq_false_iff_ne, bne_iff_ne, bne_eq_false_iff_eq, ne_eq, Classical.not_not] at hc47
    have hh : hdrBad x := by unfold hdrBad; omega
    refine wp_seq ?_
    refine wp_region_lit ?_
    refine s_val rfl rfl (v_assign rfl rfl) ?_
    refine wpList_nil ?_
    refine wp_ret ?_
    refine ret_tmp Tryz.results13 rfl ?_
    refine ⟨cx.ext, _, rfl, ?_⟩
    exact (chkX_1 hh).symm
  · skip
    try simp only [Bool.and_eq_true, Bool.or_eq_true, Bool.and_eq_false_iff, Bool.or_eq_false_iff, Bool.not_eq_true', Bool.not_eq_false', decide_eq_true_eq, decide_eq_false_iff_not, beq_iff_eq, beq_eq_false_iff_ne, bne_iff_ne, bne_eq_false_iff_eq, ne_eq, Classical.not_not] at hc47
    have hh : ¬ hdrBad x := by unfold hdrBad; omega
    refine wp_skip ?_
    refine wp_seq ?_
    refine wp_seq ?_
    refine wp_region_lit ?_
    refine s_val rfl rfl (v_fa fa35_4 rfl rfl) ?_
    refine s_val rfl rfl (v_load1 rfl rfl Tryz.underlying33 rfl (cx.cell 0 rfl rfl)) ?_
    refine s_fnI cx (c39 _ _ _ (hC.up cx.ext) (ht.up cx.ext) (by have := hs.cl; omega) hs.csz) Tryz.func39 rfl rfl rfl rfl rfl rfl ?_; intro q50 w cx hw50 hp50
    subst hp50
    refine s_val rfl rfl (v_assign rfl rfl) ?_
    refine wpList_nil ?_
    refine wp_seq ?_
    refine wp_region_lit ?_
    refine s_val rfl rfl (v_move rfl rfl) ?_
    refine s_val rfl rfl (v_cmp rfl rfl rfl rfl) ?_
    refine wpList_nil ?_
    refine c_split rfl (fun hc52 => ?_) (fun hc52 => ?_)
    · skip
      try simp only [Bool.and_eq_true, Bool.or_eq_true, Bool.and_eq_false_iff, Bool.or_eq_false_iff, Bool.not_eq_true', Bool.not_eq_false', decide_eq_true_eq, decide_eq_false_iff_not, beq_iff_eq, beq_eq_false_iff_ne, bne_iff_ne, bne_eq_false_iff_eq, ne_eq, Classical.not_not] at hc52
      refine wp_seq ?_
      refine wp_region_lit ?_
      refine s_val rfl rfl (v_move rfl rfl) ?_
      refine s_val rfl rfl (v_assign rfl rfl) ?_
      refine wpList_nil ?_
      refine wp_ret ?_
      refine ret_tmp Tryz.results13 rfl ?_
      refine ⟨cx.ext, _, rfl, ?_⟩
      exact (chkX_c hh hc52).symm
    · skip
      try simp only [Bool.and_eq_true, Bool.or_eq_true, Bool.and_eq_false_iff, Bool.or_eq_false_iff, Bool.not_eq_true', Bool.not_eq_false', decide_eq_true_eq, decide_eq_false_iff_not, beq_iff_eq, beq_eq_false_iff_ne, bne_iff_ne, bne_eq_false_iff_eq, ne_eq, Classical.not_not] at hc52
      have hce := hc52
      refine wp_skip ?_
      refine wp_seq ?_
      refine wp_region_lit ?_
      refine s_makeMap cx rfl rfl rfl ?_; intro b54 w cx hb54 hw54
      refine s_val rfl rfl (v_assign rfl rfl) ?_
      refine wpList_nil ?_
      refine wp_seq ?_
      refine wp_region_lit ?_
      refine s_val rfl rfl (v_assign rfl rfl) ?_
      refine wpList_nil ?_
      refine wp_seq ?_
      refine wp_seq ?_
      refine wp_region_lit ?_
      refine s_val rfl rfl (v_fa fa35_3 rfl rfl) ?_
      refine s_val rfl rfl (v_load1 rfl rfl Tryz.underlying32 rfl (cx.cell 1 rfl rfl)) ?_
      refine s_val rfl rfl (v_lenSlice rfl rfl Tryz.underlying32) ?_
      refine s_val rfl rfl (v_move rfl rfl) ?_
      refine wpList_nil ?_
      refine wp_block ?_
      have hel := hs.el
      refine w_loop (fun k f w1 => ∃ (i b54 b1 : Nat), k + i = x.ents.length ∧ f 1 = .pointer (some ⟨b1, 0, none⟩) ∧ f 4 = .map (some b54) ∧ f 5 = .int .i64 (lastF (x.ents.take i)) ∧ f 56 = .slice a x.ents.length c ∧ f 57 = .int .i64 x.ents.length ∧ f 58 = .int .i64 i ∧ Past x x.ents i ∧ (keysT (x.ents.take i)).Nodup ∧ Ctx w0 w1 [(b54, .map (ents (keysT (x.ents.take i)) tt 0).toArray (keysT (x.ents.take i)).length), (b1, .cells ([.int .i64 x.fmt, .int .i64 x.size, .int .i64 x.depth, .slice a x.ents.length c, .slice a2 x.cols.length c2] : List Value).toArray 35)]) (x.ents.length) ?_ ?_
      · skip
        exact ⟨0, b54, b1, by omega, rfl, rfl, rfl, rfl, rfl, rfl, Past.zero _ _, by simp [keysT], cx⟩
      intro gk9 f w hJ
      obtain ⟨i, b54, b1, hk, hs1, hs4, hs5, hs56, hs57, hs58, hpast, hnod, cx⟩ := hJ
      refine wp_seq ?_
      refine wp_region_lit ?_
      refine s_val rfl rfl (v_cmp rfl hs58 hs57 rfl) ?_
      refine wpList_nil ?_
      refine wp_seq ?_
      refine c_split rfl (fun hc59 => ?_) (fun hc59 => ?_)
      · skip
        try simp only [Bool.and_eq_true, Bool.or_eq_true, Bool.and_eq_false_iff, Bool.or_eq_false_iff, Bool.not_eq_true', Bool.not_eq_false', decide_eq_true_eq, decide_eq_false_iff_not, beq_iff_eq, beq_eq_false_iff_ne, bne_iff_ne, bne_eq_false_iff_eq, ne_eq, Classical.not_not] at hc59
        obtain ⟨e, he⟩ : ∃ e, x.ents[i]? = some e := ⟨x.ents[i]'(by omega), List.getElem?_eq_getElem _⟩
        obtain ⟨p, hrw, hp⟩ := hr i e he
        obtain ⟨pa, pc, rfl, hpc⟩ := hp.sl
        obtain rfl := ha (by omega)
        have hpl := hs.pl e (List.mem_of_getElem? he)
        refine wp_skip ?_
        refine wp_seq ?_
        refine wp_block ?_
        refine wp_seq ?_
        refine wp_region_lit ?_
        refine s_val rfl rfl (v_ia Tryz.underlying32 sz52 rfl hs56 hs58 (by omega) (by omega)) ?_
        refine s_val rfl rfl (v_load rfl rfl Tryz.underlying52 rfl sz52 (hrw.up cx.ext) rfl) ?_
        refine s_alloc cx z52 rfl rfl rfl ?_; intro b7 w cx hb7 hw7
        refine s_storeAll cx 0 rfl rfl rfl rfl rfl rfl sz52 rfl rfl ?_; intro w cx hwS10
        refine wpList_nil ?_
        refine wp_seq ?_
        refine wp_seq ?_
        refine wp_region_lit ?_
        refine s_val rfl rfl (v_fa fa52_0 rfl rfl) ?_
        refine s_val rfl rfl (v_load1 rfl rfl Tryz.underlying28 rfl (cx.cell 0 rfl rfl)) ?_
        refine s_fnB cx (c40 _ _ _ (hp.up cx.ext) (by omega)) Tryz.func40 rfl rfl rfl rfl rfl rfl ?_; intro q64 w cx hw64 hp64
        refine s_val rfl rfl (v_not rfl rfl) ?_
        refine s_val rfl rfl (v_move rfl rfl) ?_
        refine s_gval rfl rfl rfl (by first | exact w_ff rfl | exact w_gf rfl) (fun hc => v_fa fa52_0 rfl (by first | exact gve hc rfl | exact gve (and_l hc) rfl | exact gve (and_l (and_l hc)) rfl | rfl)) ?_
        refine s_gval rfl rfl rfl (by first | exact w_ff rfl | exact w_gf rfl) (fun hc => v_load1 rfl (by first | exact gve hc rfl | exact gve (and_l hc) rfl | exact gve (and_l (and_l hc)) rfl | rfl) Tryz.underlying28 rfl (cx.cell 0 rfl rfl)) ?_
        refine s_gval rfl rfl rfl (by first | exact w_ff rfl | exact w_gf rfl) (fun hc => v_lenSlice rfl (by first | exact gve hc rfl | exact gve (and_l hc) rfl | exact gve (and_l (and_l hc)) rfl | rfl) Tryz.underlying28) ?_
        refine s_gval rfl rfl rfl (by first | exact w_ff rfl | exact w_gf rfl) (fun hc => v_cmp rfl (by first | exact gve hc rfl | exact gve (and_l hc) rfl | exact gve (and_l (and_l hc)) rfl | rfl) rfl rfl) ?_
        refine s_val rfl rfl (v_or rfl rfl rfl rfl) ?_
        refine s_val rfl rfl (v_move rfl rfl) ?_
        refine s_gval rfl rfl rfl (by first | exact w_ff rfl | exact w_gf rfl) (fun hc => v_fa fa52_0 rfl (by first | exact gve hc rfl | exact gve (and_l hc) rfl | exact gve (and_l (and_l hc)) rfl | rfl)) ?_
        refine s_gval rfl rfl rfl (by first | exact w_ff rfl | exact w_gf rfl) (fun hc => v_load1 rfl (by first | exact gve hc rfl | exact gve (and_l hc) rfl | exact gve (and_l (and_l hc)) rfl | rfl) Tryz.underlying28 rfl (cx.cell 0 rfl rfl)) ?_
        refine s_gval rfl rfl rfl (by first | exact w_ff rfl | exact w_gf rfl) (fun hc => v_lenSlice rfl (by first | exact gve hc rfl | exact gve (and_l hc) rfl | exact gve (and_l (and_l hc)) rfl | rfl) Tryz.underlying28) ?_
        refine s_gval rfl rfl rfl (by first | exact w_ff rfl | exact w_gf rfl) (fun hc => v_fa fa35_2 rfl hs1) ?_
        refine s_gval rfl rfl rfl (by first | exact w_ff rfl | exact w_gf rfl) (fun hc => v_load1 rfl (by first | exact gve hc rfl | exact gve (and_l hc) rfl | exact gve (and_l (and_l hc)) rfl | rfl) Tryz.underlying3 rfl (cx.cell 2 rfl rfl)) ?_
        refine s_gval rfl rfl rfl (by first | exact w_ff rfl | exact w_gf rfl) (fun hc => v_cmp rfl (by first | exact gve hc rfl | exact gve (and_l hc) rfl | exact gve (and_l (and_l hc)) rfl | rfl) (by first | exact gve hc rfl | exact gve (and_l hc) rfl | exact gve (and_l (and_l hc)) rfl | rfl) rfl) ?_
        refine s_val rfl rfl (v_or rfl rfl rfl rfl) ?_
        refine s_val rfl rfl (v_move rfl rfl) ?_
        refine s_gval rfl rfl rfl (by first | exact w_ff rfl | exact w_gf rfl) (fun hc => v_fa fa35_0 rfl hs1) ?_
        refine s_gval rfl rfl rfl (by first | exact w_ff rfl | exact w_gf rfl) (fun hc => v_load1 rfl (by first | exact gve hc rfl | exact gve (and_l hc) rfl | exact gve (and_l (and_l hc)) rfl | rfl) Tryz.underlying3 rfl (cx.cell 2 rfl rfl)) ?_
        refine s_gval rfl rfl rfl (by first | exact w_ff rfl | exact w_gf rfl) (fun hc => v_cmp rfl (by first | exact gve hc rfl | exact gve (and_l hc) rfl | exact gve (and_l (and_l hc)) rfl | rfl) rfl rfl) ?_
        refine s_gval rfl rfl rfl (by first | exact w_ff rfl | exact w_gf rfl) (fun hc => v_move rfl (by first | exact gve hc rfl | exact gve (and_l hc) rfl | exact gve (and_l (and_l hc)) rfl | rfl)) ?_
        refine s_gval rfl rfl rfl (by first | exact w_tt rfl | exact w_gt rfl) (fun hc => v_fa fa52_0 rfl (by first | exact gve hc rfl | exact gve (and_l hc) rfl | exact gve (and_l (and_l hc)) rfl | rfl)) ?_
        refine s_gval rfl rfl rfl (by first | exact w_tt rfl | exact w_gt rfl) (fun hc => v_load1 rfl (by first | exact gve hc rfl | exact gve (and_l hc) rfl | exact gve (and_l (and_l hc)) rfl | rfl) Tryz.underlying28 rfl (cx.cell 0 rfl rfl)) ?_
        refine s_gval rfl rfl rfl (by first | exact w_tt rfl | exact w_gt rfl) (fun hc => v_lenSlice rfl (by first | exact gve hc rfl | exact gve (and_l hc) rfl | exact gve (and_l (and_l hc)) rfl | rfl) Tryz.underlying28) ?_
        refine s_gval rfl rfl rfl (by first | exact w_tt rfl | exact w_gt rfl) (fun hc => v_cmp rfl (by first | exact gve hc rfl | exact gve (and_l hc) rfl | exact gve (and_l (and_l hc)) rfl | rfl) rfl rfl) ?_
        refine s_gval rfl rfl rfl (by first | exact w_ff rfl | exact w_gf rfl) (fun hc => v_and_g hc rfl rfl rfl rfl) ?_
        refine s_val rfl rfl (v_or rfl rfl rfl rfl) ?_
        refine wpList_nil ?_
        refine c_split rfl (fun hc90 => ?_) (fun hc90 => ?_)
        · skip
          try simp only [Bool.and_eq_true, Bool.or_eq_true, Bool.and_eq_false_iff, Bool.or_eq_false_iff, Bool.not_eq_true', Bool.not_eq_false', decide_eq_true_eq, decide_eq_false_iff_not, beq_iff_eq, beq_eq_false_iff_ne, bne_iff_ne, bne_eq_false_iff_eq, ne_eq, Classical.not_not] at hc90
          have hbd : pthBad x e := by
            unfold pthBad
            rcases hc90 with ((h | h) | h) | h
            · exact .inl fun hg => by rw [hp64.2 hg] at h; cases h
            · exact .inr (.inl (by omega))
            · exact .inr (.inr (.inl (by omega)))
            · exact .inr (.inr (.inr (by omega)))
          refine wp_seq ?_
          refine wp_region_lit ?_
          refine s_val rfl rfl (v_assign rfl rfl) ?_
          refine wpList_nil ?_
          refine wp_ret ?_
          refine ret_tmp Tryz.results13 rfl ?_
          refine ⟨cx.ext, _, rfl, ?_⟩
          show (21 : Int) = chkX x
          rw [chkX_e hh hce]
          exact (entsE_at he hpast (entE_21 hbd) (by decide)).symm
        · skip
          try simp only [Bool.and_eq_true, Bool.or_eq_true, Bool.and_eq_false_iff, Bool.or_eq_false_iff, Bool.not_eq_true', Bool.not_eq_false', decide_eq_true_eq, decide_eq_false_iff_not, beq_iff_eq, beq_eq_false_iff_ne, bne_iff_ne, bne_eq_false_iff_eq, ne_eq, Classical.not_not] at hc90
          have hgd : GdP e.path := hp64.1 hc90.1.1.1
          have hnb : ¬ pthBad x e := by
            unfold pthBad
            rintro (h | h)
            · exact h hgd
            · omega
          refine wp_skip ?_
          refine wp_seq ?_
          refine wp_seq ?_
          refine wp_region_lit ?_
          refine s_val rfl rfl (v_fa fa52_1 rfl rfl) ?_
          refine s_val rfl rfl (v_fa fa48_0 rfl rfl) ?_
          refine s_val rfl rfl (v_load1 rfl rfl Tryz.underlying3 rfl (cx.cell 0 rfl rfl)) ?_
          refine s_val rfl rfl (v_move rfl hs5) ?_
          refine s_val rfl rfl (v_cmp rfl rfl rfl rfl) ?_
          refine s_val rfl rfl (v_move rfl rfl) ?_
          refine s_gval rfl rfl rfl (by first | exact w_ff rfl | exact w_gf rfl) (fun hc => v_fa fa52_1 rfl (by first | exact gve hc rfl | exact gve (and_l hc) rfl | exact gve (and_l (and_l hc)) rfl | rfl)) ?_
          refine s_gval rfl rfl rfl (by first | exact w_ff rfl | exact w_gf rfl) (fun hc => v_fa fa48_0 rfl (by first | exact gve hc rfl | exact gve (and_l hc) rfl | exact gve (and_l (and_l hc)) rfl | rfl)) ?_
          refine s_gval rfl rfl rfl (by first | exact w_ff rfl | exact w_gf rfl) (fun hc => v_load1 rfl (by first | exact gve hc rfl | exact gve (and_l hc) rfl | exact gve (and_l (and_l hc)) rfl | rfl) Tryz.underlying3 rfl (cx.cell 0 rfl rfl)) ?_
          refine s_gval rfl rfl rfl (by first | exact w_ff rfl | exact w_gf rfl) (fun hc => v_fa fa52_1 rfl (by first | exact gve hc rfl | exact gve (and_l hc) rfl | exact gve (and_l (and_l hc)) rfl | rfl)) ?_
          refine s_gval rfl rfl rfl (by first | exact w_ff rfl | exact w_gf rfl) (fun hc => v_fa fa48_1 rfl (by first | exact gve hc rfl | exact gve (and_l hc) rfl | exact gve (and_l (and_l hc)) rfl | rfl)) ?_
          refine s_gval rfl rfl rfl (by first | exact w_ff rfl | exact w_gf rfl) (fun hc => v_load1 rfl (by first | exact gve hc rfl | exact gve (and_l hc) rfl | exact gve (and_l (and_l hc)) rfl | rfl) Tryz.underlying3 rfl (cx.cell 0 rfl rfl)) ?_
          refine s_gval rfl rfl rfl (by first | exact w_ff rfl | exact w_gf rfl) (fun hc => v_cmp rfl (by first | exact gve hc rfl | exact gve (and_l hc) rfl | exact gve (and_l (and_l hc)) rfl | rfl) (by first | exact gve hc rfl | exact gve (and_l hc) rfl | exact gve (and_l (and_l hc)) rfl | rfl) rfl) ?_
          refine s_val rfl rfl (v_or rfl rfl rfl rfl) ?_
          refine s_val rfl rfl (v_move rfl rfl) ?_
          refine s_gval rfl rfl rfl (by first | exact w_ff rfl | exact w_gf rfl) (fun hc => v_fa fa52_1 rfl (by first | exact gve hc rfl | exact gve (and_l hc) rfl | exact gve (and_l (and_l hc)) rfl | rfl)) ?_
          refine s_gval rfl rfl rfl (by first | exact w_ff rfl | exact w_gf rfl) (fun hc => v_fa fa48_1 rfl (by first | exact gve hc rfl | exact gve (and_l hc) rfl | exact gve (and_l (and_l hc)) rfl | rfl)) ?_
          refine s_gval rfl rfl rfl (by first | exact w_ff rfl | exact w_gf rfl) (fun hc => v_load1 rfl (by first | exact gve hc rfl | exact gve (and_l hc) rfl | exact gve (and_l (and_l hc)) rfl | rfl) Tryz.underlying3 rfl (cx.cell 0 rfl rfl)) ?_
          refine s_gval rfl rfl rfl (by first | exact w_ff rfl | exact w_gf rfl) (fun hc => v_fa fa35_1 rfl hs1) ?_
          refine s_gval rfl rfl rfl (by first | exact w_ff rfl | exact w_gf rfl) (fun hc => v_load1 rfl (by first | exact gve hc rfl | exact gve (and_l hc) rfl | exact gve (and_l (and_l hc)) rfl | rfl) Tryz.underlying3 rfl (cx.cell 2 rfl rfl)) ?_
          refine s_gval rfl rfl rfl (by first | exact w_ff rfl | exact w_gf rfl) (fun hc => v_cmp rfl (by first | exact gve hc rfl | exact gve (and_l hc) rfl | exact gve (and_l (and_l hc)) rfl | rfl) (by first | exact gve hc rfl | exact gve (and_l hc) rfl | exact gve (and_l (and_l hc)) rfl | rfl) rfl) ?_
          refine s_val rfl rfl (v_or rfl rfl rfl rfl) ?_
          refine wpList_nil ?_
          refine c_split rfl (fun hc112 => ?_) (fun hc112 => ?_)
          · skip
            try simp only [Bool.and_eq_true, Bool.or_eq_true, Bool.and_eq_false_iff, Bool.or_eq_false_iff, Bool.not_eq_true', Bool.not_eq_false', decide_eq_true_eq, decide_eq_false_iff_not, beq_iff_eq, beq_eq_false_iff_ne, bne_iff_ne, bne_eq_false_iff_eq, ne_eq, Classical.not_not] at hc112
            have hbr : rngBad x (x.ents.take i) e := by unfold rngBad; omega
            refine wp_seq ?_
            refine wp_region_lit ?_
            refine s_val rfl rfl (v_assign rfl rfl) ?_
            refine wpList_nil ?_
            refine wp_ret ?_
            refine ret_tmp Tryz.results13 rfl ?_
            refine ⟨cx.ext, _, rfl, ?_⟩
            show (2 : Int) = chkX x
            rw [chkX_e hh hce]
            exact (entsE_at he hpast (entE_2 hnb hbr) (by decide)).symm
          · skip
            try simp only [Bool.and_eq_true, Bool.or_eq_true, Bool.and_eq_false_iff, Bool.or_eq_false_iff, Bool.not_eq_true', Bool.not_eq_false', decide_eq_true_eq, decide_eq_false_iff_not, beq_iff_eq, beq_eq_false_iff_ne, bne_iff_ne, bne_eq_false_iff_eq, ne_eq, Classical.not_not] at hc112
            have hnr : ¬ rngBad x (x.ents.take i) e := by unfold rngBad; omega
            refine wp_skip ?_
            refine wp_seq ?_
            refine wp_region_lit ?_
            refine s_val rfl rfl (v_fa fa52_1 rfl rfl) ?_
            refine s_val rfl rfl (v_fa fa48_0 rfl rfl) ?_
            refine s_val rfl rfl (v_load1 rfl rfl Tryz.underlying3 rfl (cx.cell 0 rfl rfl)) ?_
            refine s_val rfl rfl (v_assign rfl rfl) ?_
            refine wpList_nil ?_
            refine wp_seq ?_
            refine wp_region_lit ?_
            refine s_val rfl rfl (v_fa fa52_0 rfl rfl) ?_
            refine s_val rfl rfl (v_load1 rfl rfl Tryz.underlying28 rfl (cx.cell 0 rfl rfl)) ?_
            refine s_fn cx (c41 _ _ _ (hp.up cx.ext) (fun s hs => (hgd.2 s hs).gds) hgd.1 (ht.up cx.ext)) Tryz.func41 rfl rfl rfl rfl rfl rfl ?_; intro q118 w cx hw118 hp118
            subst hp118
            refine s_val rfl rfl (v_assign rfl rfl) ?_
            refine wpList_nil ?_
            refine wp_seq ?_
            refine wp_seq ?_
            refine wp_region_lit ?_
            refine s_val rfl rfl (v_move rfl hs4) ?_
            refine s_val rfl rfl (v_move rfl rfl) ?_
            refine s_val rfl rfl (v_lookupT rfl rfl rfl Tryz.underlying102 Tryz.underlying9 (Tryz.zeroValue4 _) (cx.at 1 rfl)) ?_
            refine wpList_nil ?_
            refine c_split rfl (fun hc121 => ?_) (fun hc121 => ?_)
            · skip
              try simp only [Bool.and_eq_true, Bool.or_eq_true, Bool.and_eq_false_iff, Bool.or_eq_false_iff, Bool.not_eq_true', Bool.not_eq_false', decide_eq_true_eq, decide_eq_false_iff_not, beq_iff_eq, beq_eq_false_iff_ne, bne_iff_ne, bne_eq_false_iff_eq, ne_eq, Classical.not_not] at hc121
              refine wp_seq ?_
              refine wp_region_lit ?_
              refine s_val rfl rfl (v_assign rfl rfl) ?_
              refine wpList_nil ?_
              refine wp_ret ?_
              refine ret_tmp Tryz.results13 rfl ?_
              refine ⟨cx.ext, _, rfl, ?_⟩
              show (8 : Int) = chkX x
              rw [chkX_e hh hce]
              exact (entsE_at he hpast (entE_8 hnb hnr ((seen_iff hpast hgd).1 (hasK_iff.1 hc121))) (by decide)).symm
            · skip
              try simp only [Bool.and_eq_true, Bool.or_eq_true, Bool.and_eq_false_iff, Bool.or_eq_false_iff, Bool.not_eq_true', Bool.not_eq_false', decide_eq_true_eq, decide_eq_false_iff_not, beq_iff_eq, beq_eq_false_iff_ne, bne_iff_ne, bne_eq_false_iff_eq, ne_eq, Classical.not_not] at hc121
              have hnk := hasK_F hc121
              have h0 : entE x (x.ents.take i) e = 0 := entE_0 hnb hnr fun h => hnk ((seen_iff hpast hgd).2 h)
              refine wp_skip ?_
              refine wp_region_lit ?_
              refine s_val rfl rfl (v_move rfl hs4) ?_
              refine s_val rfl rfl (v_move rfl rfl) ?_
              refine s_mapSetT cx 1 rfl rfl rfl rfl rfl rfl Tryz.underlying102 Tryz.underlying9 hnod rfl hc121 ?_; intro w cx hgr19
              refine wpList_nil ?_
              refine wp_region_lit ?_
              refine s_val rfl rfl (v_add rfl hs58 rfl (by omega) (by omega)) ?_
              refine s_val rfl rfl (v_move rfl rfl) ?_
              refine wpList_nil ?_
              refine ⟨gk9 - 1, _, by omega, rfl, i + 1, b54, b1, by omega, hs1, hs4, congrArg (Value.int .i64) (lastF_take he).symm, hs56, hs57, rfl, hpast.succ he h0, ?_, ?_⟩
              · rw [keysT_snoc he]; exact nodup_keys hnod hnk
              · rw [keysT_snoc he]; exact cx.drop 1
      · skip
        try simp only [Bool.and_eq_true, Bool.or_eq_true, Bool.and_eq_false_iff, Bool.or_eq_false_iff, Bool.not_eq_true', Bool.not_eq_false', decide_eq_true_eq, decide_eq_false_iff_not, beq_iff_eq, beq_eq_false_iff_ne, bne_iff_ne, bne_eq_false_iff_eq, ne_eq, Classical.not_not] at hc59
        refine wp_exit ?_
        refine wp_seq ?_
        refine wp_region_lit ?_
        refine s_val rfl rfl (v_assign rfl rfl) ?_
        refine wpList_nil ?_
        refine wp_ret ?_
        refine ret_tmp Tryz.results13 rfl ?_
        refine ⟨cx.ext, _, rfl, ?_⟩
        show (0 : Int) = chkX x
        rw [chkX_e hh hce]
        exact (entsE_end fun j e hj he => hpast j e (by omega) he).symm
end Go.Proofs.YthiafbkolhnadaaGreatDoor
end
section
set_option linter.unusedSimpArgs false
set_option linter.unusedVariables false
namespace Go.Proofs.YthiafbkolhnadaaGreatDoor
open Go Go.Dk Go.RowKit Go.Lib
attribute [local irreducible] Go.wpList Go.Code.wp Go.bodyPost Go.wpStill Go.wpQuiet
def spanB (a b n : Int) : Bool := decide (0 ≤ a) && decide (a ≤ b) && decide (b ≤ n)
theorem spanB_T {a b n : Int} : spanB a b n = true ↔ 0 ≤ a ∧ a ≤ b ∧ b ≤ n := by unfold spanB; simp [and_assoc]
theorem spanB_F {a b n : Int} : spanB a b n = false ↔ ¬ (0 ≤ a ∧ a ≤ b ∧ b ≤ n) := by rw [← spanB_T]; simp
theorem c43e (a b n : Int) (w0 : World) : Fc Tryz.prog 43 [.agg #[.int .i64 a, .int .i64 b], .int .i64 n] w0 (fun v _ => v = .bool (spanB a b n)) :=
  (c43 a b n w0).mono fun v w' _ ⟨r, hv, hr⟩ => by
    rw [hv]
    congr 1
    rw [Bool.eq_iff_iff]; exact hr.trans spanB_T.symm
theorem mem_take {α : Type} {l : List α} {i j : Nat} {y : α} (h : j < i) (hy : l[j]? = some y) : y ∈ l.take i := List.mem_of_getElem? (i := j) (by rw [List.getElem?_take, if_pos h]; exact hy)
set_option maxHeartbeats 4000000 in
set_option maxRecDepth 10000 in
theorem c14 (r : List Value) (x : Idx) (w0 : World) (hx : IdxV w0 x r) (hs : Szd x) : Fc Tryz.prog 14 [.agg r.toArray] w0 (IsI fun m => m = chkX x) := by
  obtain ⟨ve, vc, rfl, hE, hC⟩ := hx
  obtain ⟨a, c, b, o, rfl, ha, hr⟩ := hE.form
  obtain ⟨a2, c2, b2, o2, rfl, _, _⟩ := hC.form
  refine ret_enter Tryz.func14 rfl Tryz.ntmps14 rfl ?_
  have cx := Ctx.start w0
  refine wp_seq ?_
  refine wp_region_lit ?_
  refine s_box cx rfl rfl rfl rfl rfl ?_; intro b1 w cx hb1 hw1
  refine s_val rfl rfl (v_assign rfl rfl) ?_
  refine wpList_nil ?_
  refine wp_seq ?_
  refine wp_seq ?_
  refine wp_region_lit ?_
  refine s_val rfl rfl (v_fa fa35_0 rfl rfl) ?_
  refine s_val rfl rfl (v_load1 rfl rfl Tryz.underlying3 rfl (cx.cell 0 rfl rfl)) ?_
  refine s_val rfl rfl (v_cmp rfl rfl rfl rfl) ?_
  refine s_val rfl rfl (v_move rfl rfl) ?_
  refine s_gval rfl rfl rfl (by first | exact w_tt rfl | exact w_gt rfl) (fun hc => v_fa fa35_0 rfl (by first | exact gve hc rfl | exact gve (and_l hc) rfl | exact gve (and_l (and_l hc)) rfl | rfl)) ?_
  refine s_gval rfl rfl rfl (by first | exact w_tt rfl | exact w_gt rfl) (fun hc => v_load1 rfl (by first | exact gve hc rfl | exact gve (and_l hc) rfl | exact gve (and_l (and_l hc)) rfl | rfl) Tryz.underlying3 rfl (cx.cell 0 rfl rfl)) ?_
  refine s_gval rfl rfl rfl (by first | exact w_tt rfl | exact w_gt rfl) (fun hc => v_cmp rfl (by first | exact gve hc rfl | exact gve (and_l hc) rfl | exact gve (and_l (and_l hc)) rfl | rfl) rfl rfl) ?_
  refine s_val rfl rfl (v_and rfl rfl rfl rfl) ?_
  refine s_val rfl rfl (v_move rfl rfl) ?_
  refine s_gval rfl rfl rfl (by first | exact w_ff rfl | exact w_gf rfl) (fun hc => v_fa fa35_1 rfl (by first | exact gve hc rfl | exact gve (and_l hc) rfl | exact gve (and_l (and_l hc)) rfl | rfl)) ?_
  refine s_gval rfl rfl rfl (by first | exact w_ff rfl | exact w_gf rfl) (fun hc => v_load1 rfl (by first | exact gve hc rfl | exact gve (and_l hc) rfl | exact gve (and_l (and_l hc)) rfl | rfl) Tryz.underlying3 rfl (cx.cell 0 rfl rfl)) ?_
  refine s_gval rfl rfl rfl (by first | exact w_ff rfl | exact w_gf rfl) (fun hc => v_cmp rfl (by first | exact gve hc rfl | exact gve (and_l hc) rfl | exact gve (and_l (and_l hc)) rfl | rfl) rfl rfl) ?_
  refine s_val rfl rfl (v_or rfl rfl rfl rfl) ?_
  refine s_val rfl rfl (v_move rfl rfl) ?_
  refine s_gval rfl rfl rfl (by first | exact w_ff rfl | exact w_gf rfl) (fun hc => v_fa fa35_1 rfl (by first | exact gve hc rfl | exact gve (and_l hc) rfl | exact gve (and_l (and_l hc)) rfl | rfl)) ?_
  refine s_gval rfl rfl rfl (by first | exact w_ff rfl | exact w_gf rfl) (fun hc => v_load1 rfl (by first | exact gve hc rfl | exact gve (and_l hc) rfl | exact gve (and_l (and_l hc)) rfl | rfl) Tryz.underlying3 rfl (cx.cell 0 rfl rfl)) ?_
  refine s_gval rfl rfl rfl (by first | exact w_ff rfl | exact w_gf rfl) (fun hc => v_cmp rfl (by first | exact gve hc rfl | exact gve (and_l hc) rfl | exact gve (and_l (and_l hc)) rfl | rfl) rfl rfl) ?_
  refine s_val rfl rfl (v_or rfl rfl rfl rfl) ?_
  refine s_val rfl rfl (v_move rfl rfl) ?_
  refine s_gval rfl rfl rfl (by first | exact w_ff rfl | exact w_gf rfl) (fun hc => v_fa fa35_2 rfl (by first | exact gve hc rfl | exact gve (and_l hc) rfl | exact gve (and_l (and_l hc)) rfl | rfl)) ?_
  refine s_gval rfl rfl rfl (by first | exact w_ff rfl | exact w_gf rfl) (fun hc => v_load1 rfl (by first | exact gve hc rfl | exact gve (and_l hc) rfl | exact gve (and_l (and_l hc)) rfl | rfl) Tryz.underlying3 rfl (cx.cell 0 rfl rfl)) ?_
  refine s_gval rfl rfl rfl (by first | exact w_ff rfl | exact w_gf rfl) (fun hc => v_cmp rfl (by first | exact gve hc rfl | exact gve (and_l hc) rfl | exact gve (and_l (and_l hc)) rfl | rfl) rfl rfl) ?_
  refine s_val rfl rfl (v_or rfl rfl rfl rfl) ?_
  refine s_val rfl rfl (v_move rfl rfl) ?_
  refine s_gval rfl rfl rfl (by first | exact w_ff rfl | exact w_gf rfl) (fun hc => v_fa fa35_2 rfl (by first | exact gve hc rfl | exact gve (and_l hc) rfl | exact gve (and_l (and_l hc)) rfl | rfl)) ?_
  refine s_gval rfl rfl rfl (by first | exact w_ff rfl | exact w_gf rfl) (fun hc => v_load1 rfl (by first | exact gve hc rfl | exact gve (and_l hc) rfl | exact gve (and_l (and_l hc)) rfl | rfl) Tryz.underlying3 rfl (cx.cell 0 rfl rfl)) ?_
  refine s_gval rfl rfl rfl (by first | exact w_ff rfl | exact w_gf rfl) (fun hc => v_cmp rfl (by first | exact gve hc rfl | exact gve (and_l hc) rfl | exact gve (and_l (and_l hc)) rfl | rfl) rfl rfl) ?_
  refine s_val rfl rfl (v_or rfl rfl rfl rfl) ?_
  refine s_val rfl rfl (v_move rfl rfl) ?_
  refine s_gval rfl rfl rfl (by first | exact w_ff rfl | exact w_gf rfl) (fun hc => v_fa fa35_0 rfl (by first | exact gve hc rfl | exact gve (and_l hc) rfl | exact gve (and_l (and_l hc)) rfl | rfl)) ?_
  refine s_gval rfl rfl rfl (by first | exact w_ff rfl | exact w_gf rfl) (fun hc => v_load1 rfl (by first | exact gve hc rfl | exact gve (and_l hc) rfl | exact gve (and_l (and_l hc)) rfl | rfl) Tryz.underlying3 rfl (cx.cell 0 rfl rfl)) ?_
  refine s_gval rfl rfl rfl (by first | exact w_ff rfl | exact w_gf rfl) (fun hc => v_cmp rfl (by first | exact gve hc rfl | exact gve (and_l hc) rfl | exact gve (and_l (and_l hc)) rfl | rfl) rfl rfl) ?_
  refine s_gval rfl rfl rfl (by first | exact w_ff rfl | exact w_gf rfl) (fun hc => v_move rfl (by first | exact gve hc rfl | exact gve (and_l hc) rfl | exact gve (and_l (and_l hc)) rfl | rfl)) ?_
  refine s_gval rfl rfl rfl (by first | exact w_tt rfl | exact w_gt rfl) (fun hc => v_fa fa35_4 rfl (by first | exact gve hc rfl | exact gve (and_l hc) rfl | exact gve (and_l (and_l hc)) rfl | rfl)) ?_
  refine s_gval rfl rfl rfl (by first | exact w_tt rfl | exact w_gt rfl) (fun hc => v_load1 rfl (by first | exact gve hc rfl | exact gve (and_l hc) rfl | exact gve (and_l (and_l hc)) rfl | rfl) Tryz.underlying33 rfl (cx.cell 0 rfl rfl)) ?_
  refine s_gval rfl rfl rfl (by first | exact w_tt rfl | exact w_gt rfl) (fun hc => v_lenSlice rfl (by first | exact gve hc rfl | exact gve (and_l hc) rfl | exact gve (and_l (and_l hc)) rfl | rfl) Tryz.underlying33) ?_
  refine s_gval rfl rfl rfl (by first | exact w_tt rfl | exact w_gt rfl) (fun hc => v_cmp rfl (by first | exact gve hc rfl | exact gve (and_l hc) rfl | exact gve (and_l (and_l hc)) rfl | rfl) rfl rfl) ?_
  refine s_gval rfl rfl rfl (by first | exact w_ff rfl | exact w_gf rfl) (fun hc => v_and_g hc rfl rfl rfl rfl) ?_
  refine s_val rfl rfl (v_or rfl rfl rfl rfl) ?_
  refine wpList_nil ?_
  refine c_split rfl (fun hc45 => ?_) (fun hc45 => ?_)
  · skip
    try simp only [Bool.and_eq_true, Bool.or_eq_true, Bool.and_eq_false_iff, Bool.or_eq_false_iff, Bool.not_eq_true', Bool.not_eq_false', decide_eq_true_eq, decide_eq_false_iff_not, beq_iff_eq, beq_eq_false_iff_ne, bne_iff_ne, bne_eq_false_iff_eq, ne_eq, Classical.not_not] at hc45
    have hh : hdrBad x := by unfold hdrBad; omega
    refine wp_seq ?_
    refine wp_region_lit ?_
    refine s_val rfl rfl (v_assign rfl rfl) ?_
    refine wpList_nil ?_
    refine wp_ret ?_
    refine ret_tmp Tryz.results14 rfl ?_
    refine ⟨cx.ext, _, rfl, ?_⟩
    exact (chkX_1 hh).symm
  · skip
    try simp only [Bool.and_eq_true, Bool.or_eq_true, Bool.and_eq_false_iff, Bool.or_eq_false_iff, Bool.not_eq_true', Bool.not_eq_false', decide_eq_true_eq, decide_eq_false_iff_not, beq_iff_eq, beq_eq_false_iff_ne, bne_iff_ne, bne_eq_false_iff_eq, ne_eq, Classical.not_not] at hc45
    have hh : ¬ hdrBad x := by unfold hdrBad; omega
    refine wp_skip ?_
    refine wp_seq ?_
    refine wp_seq ?_
    refine wp_region_lit ?_
    refine s_val rfl rfl (v_fa fa35_4 rfl rfl) ?_
    refine s_val rfl rfl (v_load1 rfl rfl Tryz.underlying33 rfl (cx.cell 0 rfl rfl)) ?_
    refine s_fnI cx (c42 _ _ _ (hC.up cx.ext) (by have := hs.cl; omega) hs.csz) Tryz.func42 rfl rfl rfl rfl rfl rfl ?_; intro q48 w cx hw48 hp48
    subst hp48
    refine s_val rfl rfl (v_assign rfl rfl) ?_
    refine wpList_nil ?_
    refine wp_seq ?_
    refine wp_region_lit ?_
    refine s_val rfl rfl (v_move rfl rfl) ?_
    refine s_val rfl rfl (v_cmp rfl rfl rfl rfl) ?_
    refine wpList_nil ?_
    refine c_split rfl (fun hc50 => ?_) (fun hc50 => ?_)
    · skip
      try simp only [Bool.and_eq_true, Bool.or_eq_true, Bool.and_eq_false_iff, Bool.or_eq_false_iff, Bool.not_eq_true', Bool.not_eq_false', decide_eq_true_eq, decide_eq_false_iff_not, beq_iff_eq, beq_eq_false_iff_ne, bne_iff_ne, bne_eq_false_iff_eq, ne_eq, Classical.not_not] at hc50
      refine wp_seq ?_
      refine wp_region_lit ?_
      refine s_val rfl rfl (v_move rfl rfl) ?_
      refine s_val rfl rfl (v_assign rfl rfl) ?_
      refine wpList_nil ?_
      refine wp_ret ?_
      refine ret_tmp Tryz.results14 rfl ?_
      refine ⟨cx.ext, _, rfl, ?_⟩
      exact (chkX_c hh hc50).symm
    · skip
      try simp only [Bool.and_eq_true, Bool.or_eq_true, Bool.and_eq_false_iff, Bool.or_eq_false_iff, Bool.not_eq_true', Bool.not_eq_false', decide_eq_true_eq, decide_eq_false_iff_not, beq_iff_eq, beq_eq_false_iff_ne, bne_iff_ne, bne_eq_false_iff_eq, ne_eq, Classical.not_not] at hc50
      have hce := hc50
      refine wp_skip ?_
      refine wp_seq ?_
      refine wp_seq ?_
      refine wp_region_lit ?_
      refine s_val rfl rfl (v_assign rfl rfl) ?_
      refine wpList_nil ?_
      refine wp_block ?_
      have hel := hs.el
      refine w_loop (fun k f w1 => ∃ (i b1 : Nat), k + i = x.ents.length ∧ f 1 = .pointer (some ⟨b1, 0, none⟩) ∧ f 4 = .int .i64 i ∧ Past x x.ents i ∧ Ctx w0 w1 [(b1, .cells ([.int .i64 x.fmt, .int .i64 x.size, .int .i64 x.depth, .slice a x.ents.length c, .slice a2 x.cols.length c2] : List Value).toArray 35)]) (x.ents.length) ?_ ?_
      · skip
        exact ⟨0, b1, by omega, rfl, rfl, Past.zero _ _, cx⟩
      intro gk7 f w hJ
      obtain ⟨i, b1, hk, hs1, hs4, hpast, cx⟩ := hJ
      refine wp_seq ?_
      refine wp_seq ?_
      refine wp_region_lit ?_
      refine s_val rfl rfl (v_move rfl hs4) ?_
      refine s_val rfl rfl (v_fa fa35_3 rfl hs1) ?_
      refine s_val rfl rfl (v_load1 rfl rfl Tryz.underlying32 rfl (cx.cell 0 rfl rfl)) ?_
      refine s_val rfl rfl (v_lenSlice rfl rfl Tryz.underlying32) ?_
      refine s_val rfl rfl (v_cmp rfl rfl rfl rfl) ?_
      refine wpList_nil ?_
      refine c_split rfl (fun hc56 => ?_) (fun hc56 => ?_)
      · skip
        try simp only [Bool.and_eq_true, Bool.or_eq_true, Bool.and_eq_false_iff, Bool.or_eq_false_iff, Bool.not_eq_true', Bool.not_eq_false', decide_eq_true_eq, decide_eq_false_iff_not, beq_iff_eq, beq_eq_false_iff_ne, bne_iff_ne, bne_eq_false_iff_eq, ne_eq, Classical.not_not] at hc56
        obtain ⟨e, he⟩ : ∃ e, x.ents[i]? = some e := ⟨x.ents[i]'(by omega), List.getElem?_eq_getElem _⟩
        obtain ⟨p, hrw, hp⟩ := hr i e he
        obtain ⟨pa, pc, rfl, hpc⟩ := hp.sl
        obtain rfl := ha (by omega)
        have hpl := hs.pl e (List.mem_of_getElem? he)
        refine wp_skip ?_
        refine wp_seq ?_
        refine wp_block ?_
        refine wp_seq ?_
        refine wp_region_lit ?_
        refine s_val rfl rfl (v_fa fa35_3 rfl hs1) ?_
        refine s_val rfl rfl (v_load1 rfl rfl Tryz.underlying32 rfl (cx.cell 0 rfl rfl)) ?_
        refine s_val rfl rfl (v_move rfl hs4) ?_
        refine s_val rfl rfl (v_ia Tryz.underlying32 sz52 rfl rfl rfl (by omega) (by omega)) ?_
        refine s_val rfl rfl (v_fa fa52_0 rfl rfl) ?_
        refine s_val rfl rfl (v_load1 rfl rfl Tryz.underlying28 rfl ((hrw.up cx.ext).cell 0 rfl)) ?_
        refine s_val rfl rfl (v_assign rfl rfl) ?_
        refine wpList_nil ?_
        refine wp_seq ?_
        refine wp_seq ?_
        refine wp_region_lit ?_
        refine s_val rfl rfl (v_move rfl rfl) ?_
        refine s_fnB cx (c15 _ _ _ (hp.up cx.ext) (by omega)) Tryz.func15 rfl rfl rfl rfl rfl rfl ?_; intro q66 w cx hw66 hp66
        refine s_val rfl rfl (v_not rfl rfl) ?_
        refine s_val rfl rfl (v_move rfl rfl) ?_
        refine s_gval rfl rfl rfl (by first | exact w_ff rfl | exact w_gf rfl) (fun hc => v_move rfl (by first | exact gve hc rfl | exact gve (and_l hc) rfl | exact gve (and_l (and_l hc)) rfl | rfl)) ?_
        refine s_gval rfl rfl rfl (by first | exact w_ff rfl | exact w_gf rfl) (fun hc => v_lenSlice rfl (by first | exact gve hc rfl | exact gve (and_l hc) rfl | exact gve (and_l (and_l hc)) rfl | rfl) Tryz.underlying28) ?_
        refine s_gval rfl rfl rfl (by first | exact w_ff rfl | exact w_gf rfl) (fun hc => v_cmp rfl (by first | exact gve hc rfl | exact gve (and_l hc) rfl | exact gve (and_l (and_l hc)) rfl | rfl) rfl rfl) ?_
        refine s_val rfl rfl (v_or rfl rfl rfl rfl) ?_
        refine s_val rfl rfl (v_move rfl rfl) ?_
        refine s_gval rfl rfl rfl (by first | exact w_ff rfl | exact w_gf rfl) (fun hc => v_move rfl (by first | exact gve hc rfl | exact gve (and_l hc) rfl | exact gve (and_l (and_l hc)) rfl | rfl)) ?_
        refine s_gval rfl rfl rfl (by first | exact w_ff rfl | exact w_gf rfl) (fun hc => v_lenSlice rfl (by first | exact gve hc rfl | exact gve (and_l hc) rfl | exact gve (and_l (and_l hc)) rfl | rfl) Tryz.underlying28) ?_
        refine s_gval rfl rfl rfl (by first | exact w_ff rfl | exact w_gf rfl) (fun hc => v_fa fa35_2 rfl hs1) ?_
        refine s_gval rfl rfl rfl (by first | exact w_ff rfl | exact w_gf rfl) (fun hc => v_load1 rfl (by first | exact gve hc rfl | exact gve (and_l hc) rfl | exact gve (and_l (and_l hc)) rfl | rfl) Tryz.underlying3 rfl (cx.cell 0 rfl rfl)) ?_
        refine s_gval rfl rfl rfl (by first | exact w_ff rfl | exact w_gf rfl) (fun hc => v_cmp rfl (by first | exact gve hc rfl | exact gve (and_l hc) rfl | exact gve (and_l (and_l hc)) rfl | rfl) (by first | exact gve hc rfl | exact gve (and_l hc) rfl | exact gve (and_l (and_l hc)) rfl | rfl) rfl) ?_
        refine s_val rfl rfl (v_or rfl rfl rfl rfl) ?_
        refine s_val rfl rfl (v_move rfl rfl) ?_
        refine s_gval rfl rfl rfl (by first | exact w_ff rfl | exact w_gf rfl) (fun hc => v_fa fa35_0 rfl hs1) ?_
        refine s_gval rfl rfl rfl (by first | exact w_ff rfl | exact w_gf rfl) (fun hc => v_load1 rfl (by first | exact gve hc rfl | exact gve (and_l hc) rfl | exact gve (and_l (and_l hc)) rfl | rfl) Tryz.underlying3 rfl (cx.cell 0 rfl rfl)) ?_
        refine s_gval rfl rfl rfl (by first | exact w_ff rfl | exact w_gf rfl) (fun hc => v_cmp rfl (by first | exact gve hc rfl | exact gve (and_l hc) rfl | exact gve (and_l (and_l hc)) rfl | rfl) rfl rfl) ?_
        refine s_gval rfl rfl rfl (by first | exact w_ff rfl | exact w_gf rfl) (fun hc => v_move rfl (by first | exact gve hc rfl | exact gve (and_l hc) rfl | exact gve (and_l (and_l hc)) rfl | rfl)) ?_
        refine s_gval rfl rfl rfl (by first | exact w_tt rfl | exact w_gt rfl) (fun hc => v_move rfl (by first | exact gve hc rfl | exact gve (and_l hc) rfl | exact gve (and_l (and_l hc)) rfl | rfl)) ?_
        refine s_gval rfl rfl rfl (by first | exact w_tt rfl | exact w_gt rfl) (fun hc => v_lenSlice rfl (by first | exact gve hc rfl | exact gve (and_l hc) rfl | exact gve (and_l (and_l hc)) rfl | rfl) Tryz.underlying28) ?_
        refine s_gval rfl rfl rfl (by first | exact w_tt rfl | exact w_gt rfl) (fun hc => v_cmp rfl (by first | exact gve hc rfl | exact gve (and_l hc) rfl | exact gve (and_l (and_l hc)) rfl | rfl) rfl rfl) ?_
        refine s_gval rfl rfl rfl (by first | exact w_ff rfl | exact w_gf rfl) (fun hc => v_and_g hc rfl rfl rfl rfl) ?_
        refine s_val rfl rfl (v_or rfl rfl rfl rfl) ?_
        refine wpList_nil ?_
        refine c_split rfl (fun hc89 => ?_) (fun hc89 => ?_)
        · skip
          try simp only [Bool.and_eq_true, Bool.or_eq_true, Bool.and_eq_false_iff, Bool.or_eq_false_iff, Bool.not_eq_true', Bool.not_eq_false', decide_eq_true_eq, decide_eq_false_iff_not, beq_iff_eq, beq_eq_false_iff_ne, bne_iff_ne, bne_eq_false_iff_eq, ne_eq, Classical.not_not] at hc89
          have hbd : pthBad x e := by
            unfold pthBad
            rcases hc89 with ((h | h) | h) | h
            · exact .inl fun hg => by rw [hp66.2 hg] at h; cases h
            · exact .inr (.inl (by omega))
            · exact .inr (.inr (.inl (by omega)))
            · exact .inr (.inr (.inr (by omega)))
          refine wp_seq ?_
          refine wp_region_lit ?_
          refine s_val rfl rfl (v_assign rfl rfl) ?_
          refine wpList_nil ?_
          refine wp_ret ?_
          refine ret_tmp Tryz.results14 rfl ?_
          refine ⟨cx.ext, _, rfl, ?_⟩
          show (21 : Int) = chkX x
          rw [chkX_e hh hce]
          exact (entsE_at he hpast (entE_21 hbd) (by decide)).symm
        · skip
          try simp only [Bool.and_eq_true, Bool.or_eq_true, Bool.and_eq_false_iff, Bool.or_eq_false_iff, Bool.not_eq_true', Bool.not_eq_false', decide_eq_true_eq, decide_eq_false_iff_not, beq_iff_eq, beq_eq_false_iff_ne, bne_iff_ne, bne_eq_false_iff_eq, ne_eq, Classical.not_not] at hc89
          have hgd : GdP e.path := hp66.1 hc89.1.1.1
          have hnb : ¬ pthBad x e := by
            unfold pthBad
            rintro (h | h)
            · exact h hgd
            · omega
          obtain ⟨pv, hpv⟩ : ∃ pv : Ent, 0 < i → x.ents[i - 1]? = some pv ∧ lastF (x.ents.take i) = pv.fr := by
            rcases Nat.eq_zero_or_pos i with h | h
            · exact ⟨e, fun h' => by omega⟩
            · have h1 : x.ents[i - 1]? = some (x.ents[i - 1]'(by omega)) := List.getElem?_eq_getElem _
              refine ⟨_, fun _ => ⟨h1, ?_⟩⟩
              have := lastF_take h1
              rwa [show i - 1 + 1 = i by omega] at this
          obtain ⟨pp, hrpv⟩ : ∃ pp, 0 < i → RowAt w0 b (o + ((i : Int) - 1).toNat * 3) [pp, .int .i64 pv.fr, .int .i64 pv.to] := by
            rcases Nat.eq_zero_or_pos i with h | h
            · exact ⟨undef, fun h' => by omega⟩
            · obtain ⟨q, hq, _⟩ := hr (i - 1) pv (hpv h).1
              refine ⟨q, fun _ => ?_⟩
              rw [show ((i : Int) - 1).toNat = i - 1 by omega]
              exact hq
          have hl0 := hpast.last (by omega)
          have hlz : i = 0 → lastF (x.ents.take i) = 0 := by rintro rfl; rfl
          refine wp_skip ?_
          refine wp_seq ?_
          refine wp_seq ?_
          refine w_quiet cx mixed (by kernel_rfl) ?_
          refine q_val rfl rfl (fun w cx hwQ => v_fa fa35_3 rfl hs1) ?_
          refine q_val rfl rfl (fun w cx hwQ => v_load1 rfl rfl Tryz.underlying32 rfl (cx.cell 0 rfl rfl)) ?_
          refine q_val rfl rfl (fun w cx hwQ => v_move rfl hs4) ?_
          refine q_val rfl rfl (fun w cx hwQ => v_ia Tryz.underlying32 sz52 rfl rfl rfl (by omega) (by omega)) ?_
          refine q_val rfl rfl (fun w cx hwQ => v_fa fa52_1 rfl rfl) ?_
          refine q_val rfl rfl (fun w cx hwQ => v_load rfl rfl Tryz.underlying48 rfl sz48 (l := [.int .i64 e.fr, .int .i64 e.to]) ((hrw.up cx.ext).sub 1 rfl) rfl) ?_
          refine q_val rfl rfl (fun w cx hwQ => v_fa fa35_1 rfl hs1) ?_
          refine q_val rfl rfl (fun w cx hwQ => v_load1 rfl rfl Tryz.underlying3 rfl (cx.cell 0 rfl rfl)) ?_
          refine q_call (v := .bool (spanB _ _ _)) rfl rfl (runs_fn Tryz.func43 rfl rfl rfl (cons_eq rfl (cons_eq rfl rfl))) (fun w cx hwQ => c43e _ _ _ _) ?_
          refine q_val rfl rfl (fun w cx hwQ => v_not rfl rfl) ?_
          refine q_val rfl rfl (fun w cx hwQ => v_move rfl rfl) ?_
          refine q_gval rfl rfl rfl (by first | exact w_ff rfl | exact w_gf rfl) (fun hc w cx hwQ => v_move rfl hs4) ?_
          refine q_gval rfl rfl rfl (by first | exact w_ff rfl | exact w_gf rfl) (fun hc w cx hwQ => v_cmp rfl (by first | exact gve hc rfl | exact gve (and_l hc) rfl | exact gve (and_l (and_l hc)) rfl | rfl) rfl rfl) ?_
          refine q_gval rfl rfl rfl (by first | exact w_ff rfl | exact w_gf rfl) (fun hc w cx hwQ => v_move rfl (by first | exact gve hc rfl | exact gve (and_l hc) rfl | exact gve (and_l (and_l hc)) rfl | rfl)) ?_
          refine q_gval rfl rfl rfl (by first | exact w_tt rfl | exact w_gt rfl) (fun hc w cx hwQ => v_fa fa35_3 rfl hs1) ?_
          refine q_gval rfl rfl rfl (by first | exact w_tt rfl | exact w_gt rfl) (fun hc w cx hwQ => v_load1 rfl (by first | exact gve hc rfl | exact gve (and_l hc) rfl | exact gve (and_l (and_l hc)) rfl | rfl) Tryz.underlying32 rfl (cx.cell 0 rfl rfl)) ?_
          refine q_gval rfl rfl rfl (by first | exact w_tt rfl | exact w_gt rfl) (fun hc w cx hwQ => v_move rfl hs4) ?_
          refine q_gval rfl rfl rfl (by first | exact w_tt rfl | exact w_gt rfl) (fun hc w cx hwQ => v_ia Tryz.underlying32 sz52 rfl (by first | exact gve hc rfl | exact gve (and_l hc) rfl | exact gve (and_l (and_l hc)) rfl | rfl) (by first | exact gve hc rfl | exact gve (and_l hc) rfl | exact gve (and_l (and_l hc)) rfl | rfl) (by first | omega | (simp only [Bool.and_eq_true, Bool.or_eq_true, Bool.and_eq_false_iff, Bool.or_eq_false_iff, Bool.not_eq_true', Bool.not_eq_false', decide_eq_true_eq, decide_eq_false_iff_not, beq_iff_eq, beq_eq_false_iff_ne, bne_iff_ne, bne_eq_false_iff_eq, ne_eq, Classical.not_not] at hc; omega)) (by first | omega | (simp only [Bool.and_eq_true, Bool.or_eq_true, Bool.and_eq_false_iff, Bool.or_eq_false_iff, Bool.not_eq_true', Bool.not_eq_false', decide_eq_true_eq, decide_eq_false_iff_not, beq_iff_eq, beq_eq_false_iff_ne, bne_iff_ne, bne_eq_false_iff_eq, ne_eq, Classical.not_not] at hc; omega))) ?_
          refine q_gval rfl rfl rfl (by first | exact w_tt rfl | exact w_gt rfl) (fun hc w cx hwQ => v_fa fa52_1 rfl (by first | exact gve hc rfl | exact gve (and_l hc) rfl | exact gve (and_l (and_l hc)) rfl | rfl)) ?_
          refine q_gval rfl rfl rfl (by first | exact w_tt rfl | exact w_gt rfl) (fun hc w cx hwQ => v_fa fa48_0 rfl (by first | exact gve hc rfl | exact gve (and_l hc) rfl | exact gve (and_l (and_l hc)) rfl | rfl)) ?_
          refine q_gval rfl rfl rfl (by first | exact w_tt rfl | exact w_gt rfl) (fun hc w cx hwQ => v_load1 rfl (by first | exact gve hc rfl | exact gve (and_l hc) rfl | exact gve (and_l (and_l hc)) rfl | rfl) Tryz.underlying3 rfl ((hrw.up cx.ext).cell 1 rfl)) ?_
          refine q_gval rfl rfl rfl (by first | exact w_tt rfl | exact w_gt rfl) (fun hc w cx hwQ => v_fa fa35_3 rfl hs1) ?_
          refine q_gval rfl rfl rfl (by first | exact w_tt rfl | exact w_gt rfl) (fun hc w cx hwQ => v_load1 rfl (by first | exact gve hc rfl | exact gve (and_l hc) rfl | exact gve (and_l (and_l hc)) rfl | rfl) Tryz.underlying32 rfl (cx.cell 0 rfl rfl)) ?_
          refine q_gval rfl rfl rfl (by first | exact w_tt rfl | exact w_gt rfl) (fun hc w cx hwQ => v_move rfl hs4) ?_
          refine q_gval rfl rfl rfl (by first | exact w_tt rfl | exact w_gt rfl) (fun hc w cx hwQ => v_sub rfl (by first | exact gve hc rfl | exact gve (and_l hc) rfl | exact gve (and_l (and_l hc)) rfl | rfl) rfl (by first | omega | (simp only [Bool.and_eq_true, Bool.or_eq_true, Bool.and_eq_false_iff, Bool.or_eq_false_iff, Bool.not_eq_true', Bool.not_eq_false', decide_eq_true_eq, decide_eq_false_iff_not, beq_iff_eq, beq_eq_false_iff_ne, bne_iff_ne, bne_eq_false_iff_eq, ne_eq, Classical.not_not] at hc; omega)) (by first | omega | (simp only [Bool.and_eq_true, Bool.or_eq_true, Bool.and_eq_false_iff, Bool.or_eq_false_iff, Bool.not_eq_true', Bool.not_eq_false', decide_eq_true_eq, decide_eq_false_iff_not, beq_iff_eq, beq_eq_false_iff_ne, bne_iff_ne, bne_eq_false_iff_eq, ne_eq, Classical.not_not] at hc; omega))) ?_
          refine q_gval rfl rfl rfl (by first | exact w_tt rfl | exact w_gt rfl) (fun hc w cx hwQ => v_ia Tryz.underlying32 sz52 rfl (by first | exact gve hc rfl | exact gve (and_l hc) rfl | exact gve (and_l (and_l hc)) rfl | rfl) (by first | exact gve hc rfl | exact gve (and_l hc) rfl | exact gve (and_l (and_l hc)) rfl | rfl) (by first | omega | (simp only [Bool.and_eq_true, Bool.or_eq_true, Bool.and_eq_false_iff, Bool.or_eq_false_iff, Bool.not_eq_true', Bool.not_eq_false', decide_eq_true_eq, decide_eq_false_iff_not, beq_iff_eq, beq_eq_false_iff_ne, bne_iff_ne, bne_eq_false_iff_eq, ne_eq, Classical.not_not] at hc; omega)) (by first | omega | (simp only [Bool.and_eq_true, Bool.or_eq_true, Bool.and_eq_false_iff, Bool.or_eq_false_iff, Bool.not_eq_true', Bool.not_eq_false', decide_eq_true_eq, decide_eq_false_iff_not, beq_iff_eq, beq_eq_false_iff_ne, bne_iff_ne, bne_eq_false_iff_eq, ne_eq, Classical.not_not] at hc; omega))) ?_
          refine q_gval rfl rfl rfl (by first | exact w_tt rfl | exact w_gt rfl) (fun hc w cx hwQ => v_fa fa52_1 rfl (by first | exact gve hc rfl | exact gve (and_l hc) rfl | exact gve (and_l (and_l hc)) rfl | rfl)) ?_
          refine q_gval rfl rfl rfl (by first | exact w_tt rfl | exact w_gt rfl) (fun hc w cx hwQ => v_fa fa48_0 rfl (by first | exact gve hc rfl | exact gve (and_l hc) rfl | exact gve (and_l (and_l hc)) rfl | rfl)) ?_
          refine q_gval rfl rfl rfl (by first | exact w_tt rfl | exact w_gt rfl) (fun hc w cx hwQ => v_load1 rfl (by first | exact gve hc rfl | exact gve (and_l hc) rfl | exact gve (and_l (and_l hc)) rfl | rfl) Tryz.underlying3 rfl (((hrpv (by simp only [Bool.and_eq_true, Bool.or_eq_true, Bool.and_eq_false_iff, Bool.or_eq_false_iff, Bool.not_eq_true', Bool.not_eq_false', decide_eq_true_eq, decide_eq_false_iff_not, beq_iff_eq, beq_eq_false_iff_ne, bne_iff_ne, bne_eq_false_iff_eq, ne_eq, Classical.not_not] at hc; omega)).up cx.ext).cell 1 rfl)) ?_
          refine q_gval rfl rfl rfl (by first | exact w_tt rfl | exact w_gt rfl) (fun hc w cx hwQ => v_cmp rfl (by first | exact gve hc rfl | exact gve (and_l hc) rfl | exact gve (and_l (and_l hc)) rfl | rfl) (by first | exact gve hc rfl | exact gve (and_l hc) rfl | exact gve (and_l (and_l hc)) rfl | rfl) rfl) ?_
          refine q_gval rfl rfl rfl (by first | exact w_ff rfl | exact w_gf rfl) (fun hc w cx hwQ => v_and_g hc rfl rfl rfl rfl) ?_
          refine q_val rfl rfl (fun w cx hwQ => v_or rfl rfl rfl rfl) ?_
          refine q_nil ?_; rintro w ⟨cx, hwQ12⟩
          refine c_split rfl (fun hc121 => ?_) (fun hc121 => ?_)
          · skip
            try simp only [Bool.and_eq_true, Bool.or_eq_true, Bool.and_eq_false_iff, Bool.or_eq_false_iff, Bool.not_eq_true', Bool.not_eq_false', decide_eq_true_eq, decide_eq_false_iff_not, beq_iff_eq, beq_eq_false_iff_ne, bne_iff_ne, bne_eq_false_iff_eq, ne_eq, Classical.not_not] at hc121
            simp only [spanB_F, spanB_T] at hc121
            have hbr : rngBad x (x.ents.take i) e := by
              unfold rngBad
              rcases Nat.eq_zero_or_pos i with h | h
              · have := hlz h; omega
              · have := (hpv h).2; omega
            refine wp_seq ?_
            refine wp_region_lit ?_
            refine s_val rfl rfl (v_assign rfl rfl) ?_
            refine wpList_nil ?_
            refine wp_ret ?_
            refine ret_tmp Tryz.results14 rfl ?_
            refine ⟨cx.ext, _, rfl, ?_⟩
            show (2 : Int) = chkX x
            rw [chkX_e hh hce]
            exact (entsE_at he hpast (entE_2 hnb hbr) (by decide)).symm
          · skip
            try simp only [Bool.and_eq_true, Bool.or_eq_true, Bool.and_eq_false_iff, Bool.or_eq_false_iff, Bool.not_eq_true', Bool.not_eq_false', decide_eq_true_eq, decide_eq_false_iff_not, beq_iff_eq, beq_eq_false_iff_ne, bne_iff_ne, bne_eq_false_iff_eq, ne_eq, Classical.not_not] at hc121
            simp only [spanB_F, spanB_T] at hc121
            have hnr : ¬ rngBad x (x.ents.take i) e := by
              unfold rngBad
              rcases Nat.eq_zero_or_pos i with h | h
              · have := hlz h; omega
              · have := (hpv h).2; omega
            refine wp_skip ?_
            refine wp_seq ?_
            refine wp_region_lit ?_
            refine s_val rfl rfl (v_assign rfl rfl) ?_
            refine wpList_nil ?_
            refine wp_block ?_
            refine w_loop (fun k f w1 => ∃ (j b1 : Nat), k + j = i ∧ f 1 = .pointer (some ⟨b1, 0, none⟩) ∧ f 4 = .int .i64 i ∧ f 5 = .slice pa e.path.length pc ∧ f 6 = .int .i64 j ∧ (∀ (n : Nat) y, n < j → x.ents[n]? = some y → y.path ≠ e.path) ∧ Ctx w0 w1 [(b1, .cells ([.int .i64 x.fmt, .int .i64 x.size, .int .i64 x.depth, .slice (some ⟨b, o, none⟩) x.ents.length c, .slice a2 x.cols.length c2] : List Value).toArray 35)]) (i) ?_ ?_
            · skip
              exact ⟨0, b1, by omega, hs1, hs4, rfl, rfl, fun n y h => by omega, cx⟩
            intro gk15 f w hJ
            obtain ⟨j, b1, hkj, hs1, hs4, hs5, hs6, hne, cx⟩ := hJ
            refine wp_seq ?_
            refine wp_seq ?_
            refine wp_region_lit ?_
            refine s_val rfl rfl (v_move rfl hs6) ?_
            refine s_val rfl rfl (v_move rfl hs4) ?_
            refine s_val rfl rfl (v_cmp rfl rfl rfl rfl) ?_
            refine wpList_nil ?_
            refine c_split rfl (fun hc124 => ?_) (fun hc124 => ?_)
            · skip
              try simp only [Bool.and_eq_true, Bool.or_eq_true, Bool.and_eq_false_iff, Bool.or_eq_false_iff, Bool.not_eq_true', Bool.not_eq_false', decide_eq_true_eq, decide_eq_false_iff_not, beq_iff_eq, beq_eq_false_iff_ne, bne_iff_ne, bne_eq_false_iff_eq, ne_eq, Classical.not_not] at hc124
              obtain ⟨y, hy⟩ : ∃ y, x.ents[j]? = some y := ⟨x.ents[j]'(by omega), List.getElem?_eq_getElem _⟩
              obtain ⟨p2, hrw2, hp2⟩ := hr j y hy
              have hpl2 := hs.pl y (List.mem_of_getElem? hy)
              refine wp_skip ?_
              refine wp_seq ?_
              refine wp_block ?_
              refine wp_seq ?_
              refine wp_region_lit ?_
              refine s_val rfl rfl (v_fa fa35_3 rfl hs1) ?_
              refine s_val rfl rfl (v_load1 rfl rfl Tryz.underlying32 rfl (cx.cell 0 rfl rfl)) ?_
              refine s_val rfl rfl (v_move rfl hs6) ?_
              refine s_val rfl rfl (v_ia Tryz.underlying32 sz52 rfl rfl rfl (by omega) (by omega)) ?_
              refine s_val rfl rfl (v_fa fa52_0 rfl rfl) ?_
              refine s_val rfl rfl (v_load1 rfl rfl Tryz.underlying28 rfl ((hrw2.up cx.ext).cell 0 rfl)) ?_
              refine s_val rfl rfl (v_move rfl hs5) ?_
              refine s_fnB cx (c20 _ _ _ _ _ (hp2.up cx.ext) (hp.up cx.ext) (by omega) (by omega)) Tryz.func20 rfl rfl rfl rfl rfl rfl ?_; intro q134 w cx hw134 hp134
              refine wpList_nil ?_
              refine c_split rfl (fun hc134 => ?_) (fun hc134 => ?_)
              · skip
                try simp only [Bool.and_eq_true, Bool.or_eq_true, Bool.and_eq_false_iff, Bool.or_eq_false_iff, Bool.not_eq_true', Bool.not_eq_false', decide_eq_true_eq, decide_eq_false_iff_not, beq_iff_eq, beq_eq_false_iff_ne, bne_iff_ne, bne_eq_false_iff_eq, ne_eq, Classical.not_not] at hc134
                refine wp_seq ?_
                refine wp_region_lit ?_
                refine s_val rfl rfl (v_assign rfl rfl) ?_
                refine wpList_nil ?_
                refine wp_ret ?_
                refine ret_tmp Tryz.results14 rfl ?_
                refine ⟨cx.ext, _, rfl, ?_⟩
                show (8 : Int) = chkX x
                rw [chkX_e hh hce]
                exact (entsE_at he hpast (entE_8 hnb hnr ⟨y, mem_take (by omega) hy, hp134.1 hc134⟩) (by decide)).symm
              · skip
                try simp only [Bool.and_eq_true, Bool.or_eq_true, Bool.and_eq_false_iff, Bool.or_eq_false_iff, Bool.not_eq_true', Bool.not_eq_false', decide_eq_true_eq, decide_eq_false_iff_not, beq_iff_eq, beq_eq_false_iff_ne, bne_iff_ne, bne_eq_false_iff_eq, ne_eq, Classical.not_not] at hc134
                refine wp_skip ?_
                refine wp_region_lit ?_
                refine s_val rfl rfl (v_move rfl hs6) ?_
                refine s_val rfl rfl (v_add rfl rfl rfl (by omega) (by omega)) ?_
                refine s_val rfl rfl (v_assign rfl rfl) ?_
                refine wpList_nil ?_
                refine ⟨gk15 - 1, _, by omega, rfl, j + 1, b1, by omega, hs1, hs4, hs5, rfl, fun n z hn hz hq => ?_, cx⟩
                rcases Nat.lt_or_ge n j with h | h
                · exact hne n z h hz hq
                · obtain rfl : n = j := by omega
                  rw [hy] at hz; cases hz
                  rw [hp134.2 hq] at hc134; cases hc134
            · skip
              try simp only [Bool.and_eq_true, Bool.or_eq_true, Bool.and_eq_false_iff, Bool.or_eq_false_iff, Bool.not_eq_true', Bool.not_eq_false', decide_eq_true_eq, decide_eq_false_iff_not, beq_iff_eq, beq_eq_false_iff_ne, bne_iff_ne, bne_eq_false_iff_eq, ne_eq, Classical.not_not] at hc124
              refine wp_exit ?_
              refine wp_region_lit ?_
              refine s_val rfl rfl (v_move rfl hs4) ?_
              refine s_val rfl rfl (v_add rfl rfl rfl (by omega) (by omega)) ?_
              refine s_val rfl rfl (v_assign rfl rfl) ?_
              refine wpList_nil ?_
              have h0 : entE x (x.ents.take i) e = 0 := entE_0 hnb hnr (by
                rintro ⟨y, hm, hy⟩
                obtain ⟨n, hn⟩ := List.getElem?_of_mem hm
                rw [List.getElem?_take] at hn
                split at hn
                · exact hne n y (by omega) hn hy
                · cases hn)
              refine ⟨gk7 - 1, _, by omega, rfl, i + 1, b1, by omega, hs1, rfl, hpast.succ he h0, cx⟩
      · skip
        try simp only [Bool.and_eq_true, Bool.or_eq_true, Bool.and_eq_false_iff, Bool.or_eq_false_iff, Bool.not_eq_true', Bool.not_eq_false', decide_eq_true_eq, decide_eq_false_iff_not, beq_iff_eq, beq_eq_false_iff_ne, bne_iff_ne, bne_eq_false_iff_eq, ne_eq, Classical.not_not] at hc56
        refine wp_exit ?_
        refine wp_seq ?_
        refine wp_region_lit ?_
        refine s_val rfl rfl (v_assign rfl rfl) ?_
        refine wpList_nil ?_
        refine wp_ret ?_
        refine ret_tmp Tryz.results14 rfl ?_
        refine ⟨cx.ext, _, rfl, ?_⟩
        show (0 : Int) = chkX x
        rw [chkX_e hh hce]
        exact (entsE_end fun j e hj he => hpast j e (by omega) he).symm
end Go.Proofs.YthiafbkolhnadaaGreatDoor
end
section
set_option linter.unusedSimpArgs false
set_option linter.unusedVariables false
namespace Go.Proofs.YthiafbkolhnadaaGreatDoor
open Go Go.Dk Go.RowKit Go.Lib
attribute [local irreducible] Go.wpList Go.Code.wp Go.bodyPost Go.wpStill Go.wpQuiet
theorem c49 (m : Int) (w : World) (h : m = 1 ∨ m = 4) : Fc Tryz.prog 49 [.int .i64 m] w fun v _ => v = .string (bs (nameT m)) := by
  rcases h with rfl | rfl
  · exact call_of nm1_k w
  · exact call_of nm4_k w
noncomputable def txtO (x : Idx) : List UInt8 := if chkX x = 0 then textX x else []
theorem txtO_0 {x : Idx} (h : chkX x = 0) : txtO x = textX x := by unfold txtO; rw [if_pos h]
theorem txtO_n {x : Idx} (h : ¬ chkX x = 0) : txtO x = [] := by unfold txtO; rw [if_neg h]
set_option maxHeartbeats 4000000 in
set_option maxRecDepth 10000 in
theorem c22 (r : List Value) (x : Idx) (w0 : World) (hx : IdxV w0 x r) (hs : Szd x) : Fc Tryz.prog 22 [.agg r.toArray] w0 (fun v _ => v = .tuple #[.string (bs (txtO x)), .int .i64 (chkX x)]) := by
  have hX := hx
  obtain ⟨ve, vc, rfl, hE, hC⟩ := hx
  obtain ⟨a, c, b, o, rfl, ha, hr⟩ := hE.form
  obtain ⟨a2, c2, b2, o2, rfl, ha2, hr2⟩ := hC.form
  have hel := hs.el
  have hcl := hs.cl
  refine ret_enter Tryz.func22 rfl Tryz.ntmps22 rfl ?_
  have cx := Ctx.start w0
  refine wp_seq ?_
  refine wp_region_lit ?_
  refine s_box cx rfl rfl rfl rfl rfl ?_; intro b1 w cx hb1 hw1
  refine s_val rfl rfl (v_assign rfl rfl) ?_
  refine s_val rfl rfl (v_assign rfl rfl) ?_
  refine wpList_nil ?_
  refine wp_seq ?_
  refine wp_seq ?_
  refine wp_region_lit ?_
  refine s_val rfl rfl (v_load rfl rfl Tryz.underlying35 rfl sz35 (cx.row 0 rfl) rfl) ?_
  refine s_fnI cx (c14 _ x _ (hX.up cx.ext) hs) Tryz.func14 rfl rfl rfl rfl rfl rfl ?_; intro q12 w cx hw12 hp12
  subst hp12
  refine s_val rfl rfl (v_assign rfl rfl) ?_
  refine wpList_nil ?_
  refine wp_seq ?_
  refine wp_region_lit ?_
  refine s_val rfl rfl (v_move rfl rfl) ?_
  refine s_val rfl rfl (v_cmp rfl rfl rfl rfl) ?_
  refine wpList_nil ?_
  refine c_split rfl (fun hc14 => ?_) (fun hc14 => ?_)
  · skip
    try simp only [Bool.and_eq_true, Bool.or_eq_true, Bool.and_eq_false_iff, Bool.or_eq_false_iff, Bool.not_eq_true', Bool.not_eq_false', decide_eq_true_eq, decide_eq_false_iff_not, beq_iff_eq, beq_eq_false_iff_ne, bne_iff_ne, bne_eq_false_iff_eq, ne_eq, Classical.not_not] at hc14
    refine wp_seq ?_
    refine wp_region_lit ?_
    refine s_val rfl rfl (v_move rfl rfl) ?_
    refine s_val rfl rfl (v_assign rfl rfl) ?_
    refine s_val rfl rfl (v_assign rfl rfl) ?_
    refine wpList_nil ?_
    refine wp_ret ?_
    refine ret_tmp2 Tryz.results22 rfl rfl ?_
    refine ⟨cx.ext, congrArg (fun l => Value.tuple #[Value.string (bs l), Value.int .i64 (chkX x)]) ?_⟩
    exact (txtO_n hc14).symm
  · skip
    try simp only [Bool.and_eq_true, Bool.or_eq_true, Bool.and_eq_false_iff, Bool.or_eq_false_iff, Bool.not_eq_true', Bool.not_eq_false', decide_eq_true_eq, decide_eq_false_iff_not, beq_iff_eq, beq_eq_false_iff_ne, bne_iff_ne, bne_eq_false_iff_eq, ne_eq, Classical.not_not] at hc14
    have hchk := hc14
    obtain ⟨hfm, hsz0, hsz1, hdp0, hdp1⟩ := chk_hdr hchk
    have hil1 := itoa_le hsz0 hsz1
    have hil2 := itoa_le (n := x.depth) (by omega) (by omega)
    have hnl : (nameT x.fmt).length ≤ 5 := by unfold nameT; split <;> simp
    have hhl := hdrT_len hchk
    refine wp_skip ?_
    refine wp_seq ?_
    refine w_quiet cx mixed (by kernel_rfl) ?_
    refine q_val rfl rfl (fun w cx hwQ => v_fa fa35_0 rfl rfl) ?_
    refine q_val rfl rfl (fun w cx hwQ => v_load1 rfl rfl Tryz.underlying3 rfl (cx.cell 0 rfl rfl)) ?_
    refine q_call (v := .string (bs (nameT x.fmt))) rfl rfl (runs_fn Tryz.func49 rfl rfl rfl (cons_eq rfl rfl)) (fun w cx hwQ => c49 _ _ hfm) ?_
    refine q_val rfl rfl (fun w cx hwQ => v_strAddB (a := [105, 110, 100, 101, 120, 32]) (b := nameT x.fmt) rfl rfl rfl (by (try simp only [List.length_append, List.length_cons, List.length_nil]); omega)) ?_
    refine q_val rfl rfl (fun w cx hwQ => v_strAddB (a := ([105, 110, 100, 101, 120, 32] ++ nameT x.fmt)) (b := [32]) rfl rfl rfl (by (try simp only [List.length_append, List.length_cons, List.length_nil]); omega)) ?_
    refine q_val rfl rfl (fun w cx hwQ => v_fa fa35_1 rfl rfl) ?_
    refine q_val rfl rfl (fun w cx hwQ => v_load1 rfl rfl Tryz.underlying3 rfl (cx.cell 0 rfl rfl)) ?_
    refine q_call (v := .string (bs (itoa _))) rfl rfl (runs_fn Tryz.func50 rfl rfl rfl (cons_eq rfl rfl)) (fun w cx hwQ => c50 _ _ (by omega) (by omega)) ?_
    refine q_val rfl rfl (fun w cx hwQ => v_strAddB (a := (([105, 110, 100, 101, 120, 32] ++ nameT x.fmt) ++ [32])) (b := itoa x.size) rfl rfl rfl (by (try simp only [List.length_append, List.length_cons, List.length_nil]); omega)) ?_
    refine q_val rfl rfl (fun w cx hwQ => v_strAddB (a := ((([105, 110, 100, 101, 120, 32] ++ nameT x.fmt) ++ [32]) ++ itoa x.size)) (b := [32]) rfl rfl rfl (by (try simp only [List.length_append, List.length_cons, List.length_nil]); omega)) ?_
    refine q_val rfl rfl (fun w cx hwQ => v_fa fa35_2 rfl rfl) ?_
    refine q_val rfl rfl (fun w cx hwQ => v_load1 rfl rfl Tryz.underlying3 rfl (cx.cell 0 rfl rfl)) ?_
    refine q_call (v := .string (bs (itoa _))) rfl rfl (runs_fn Tryz.func50 rfl rfl rfl (cons_eq rfl rfl)) (fun w cx hwQ => c50 _ _ (by omega) (by omega)) ?_
    refine q_val rfl rfl (fun w cx hwQ => v_strAddB (a := (((([105, 110, 100, 101, 120, 32] ++ nameT x.fmt) ++ [32]) ++ itoa x.size) ++ [32])) (b := itoa x.depth) rfl rfl rfl (by (try simp only [List.length_append, List.length_cons, List.length_nil]); omega)) ?_
    refine q_val rfl rfl (fun w cx hwQ => v_strAddB (a := ((((([105, 110, 100, 101, 120, 32] ++ nameT x.fmt) ++ [32]) ++ itoa x.size) ++ [32]) ++ itoa x.depth)) (b := [10]) rfl rfl rfl (by (try simp only [List.length_append, List.length_cons, List.length_nil]); omega)) ?_
    refine q_val rfl rfl (fun w cx hwQ => v_assign rfl rfl) ?_
    refine q_nil ?_; rintro w ⟨cx, hwQ4⟩
    refine wp_seq ?_
    refine wp_seq ?_
    refine wp_region_lit ?_
    refine s_val rfl rfl (v_assign rfl rfl) ?_
    refine wpList_nil ?_
    refine wp_block ?_
    refine w_loop (fun k f w1 => ∃ (i b1 : Nat), k + i = x.cols.length ∧ f 1 = .pointer (some ⟨b1, 0, none⟩) ∧ f 5 = .string (bs (textC x i)) ∧ f 6 = .int .i64 i ∧ Ctx w0 w1 [(b1, .cells ([.int .i64 x.fmt, .int .i64 x.size, .int .i64 x.depth, .slice a x.ents.length c, .slice a2 x.cols.length c2] : List Value).toArray 35)]) (x.cols.length) ?_ ?_
    · skip
      exact ⟨0, _, by omega, rfl, congrArg (fun l => Value.string (bs l)) (textC_zero x).symm, rfl, cx⟩
    intro gk6 f w hJ
    obtain ⟨i, b1, hk, hs1, hs5, hs6, cx⟩ := hJ
    refine wp_seq ?_
    refine wp_seq ?_
    refine wp_region_lit ?_
    refine s_val rfl rfl (v_move rfl hs6) ?_
    refine s_val rfl rfl (v_fa fa35_4 rfl hs1) ?_
    refine s_val rfl rfl (v_load1 rfl rfl Tryz.underlying33 rfl (cx.cell 0 rfl rfl)) ?_
    refine s_val rfl rfl (v_lenSlice rfl rfl Tryz.underlying33) ?_
    refine s_val rfl rfl (v_cmp rfl rfl rfl rfl) ?_
    refine wpList_nil ?_
    refine c_split rfl (fun hc35 => ?_) (fun hc35 => ?_)
    · skip
      try simp only [Bool.and_eq_true, Bool.or_eq_true, Bool.and_eq_false_iff, Bool.or_eq_false_iff, Bool.not_eq_true', Bool.not_eq_false', decide_eq_true_eq, decide_eq_false_iff_not, beq_iff_eq, beq_eq_false_iff_ne, bne_iff_ne, bne_eq_false_iff_eq, ne_eq, Classical.not_not] at hc35
      obtain ⟨y, hy⟩ : ∃ y, x.cols[i]? = some y := ⟨x.cols[i]'(by omega), List.getElem?_eq_getElem _⟩
      have hrw := hr2 i y hy
      obtain rfl := ha2 (by omega)
      obtain ⟨hyv, hyc⟩ := chk_cols hchk y (List.mem_of_getElem? hy)
      have hyl := cqt_len hyc
      have htl := textC_len hchk i (by omega)
      refine wp_skip ?_
      refine wp_seq ?_
      refine wp_block ?_
      refine wp_seq ?_
      refine wp_region_lit ?_
      refine s_val rfl rfl (v_fa fa35_4 rfl hs1) ?_
      refine s_val rfl rfl (v_load1 rfl rfl Tryz.underlying33 rfl (cx.cell 0 rfl rfl)) ?_
      refine s_val rfl rfl (v_move rfl hs6) ?_
      refine s_val rfl rfl (v_ia Tryz.underlying33 sz9 rfl rfl rfl (by omega) (by omega)) ?_
      refine s_val rfl rfl (v_load1 rfl rfl Tryz.underlying9 rfl ((hrw.up cx.ext).cell 0 rfl)) ?_
      refine s_fn cx (c52 _ _) Tryz.func52 rfl rfl rfl rfl rfl rfl ?_; intro q44 w cx hw44 hp44
      subst hp44
      refine s_fn cx (c51 y _ hyv hyc) Tryz.func51 rfl rfl rfl rfl rfl rfl ?_; intro q45 w cx hw45 hp45
      subst hp45
      refine s_val rfl rfl (v_move rfl rfl) ?_
      refine s_val rfl rfl (v_extract rfl rfl rfl) ?_
      refine s_val rfl rfl (v_extract rfl rfl rfl) ?_
      refine s_val rfl rfl (v_assign rfl rfl) ?_
      refine s_val rfl rfl (v_assign rfl rfl) ?_
      refine wpList_nil ?_
      refine wp_region_lit ?_
      refine s_val rfl rfl (v_move rfl hs5) ?_
      refine s_val rfl rfl (v_strAddB (a := (textC x i)) (b := [99, 111, 108, 117, 109, 110, 32]) rfl rfl rfl (by (try simp only [List.length_append, List.length_cons, List.length_nil]); omega)) ?_
      refine s_val rfl rfl (v_move rfl rfl) ?_
      refine s_val rfl rfl (v_strAddB (a := ((textC x i) ++ [99, 111, 108, 117, 109, 110, 32])) (b := cqt y) rfl rfl rfl (by (try simp only [List.length_append, List.length_cons, List.length_nil]); omega)) ?_
      refine s_val rfl rfl (v_strAddB (a := (((textC x i) ++ [99, 111, 108, 117, 109, 110, 32]) ++ cqt y)) (b := [10]) rfl rfl rfl (by (try simp only [List.length_append, List.length_cons, List.length_nil]); omega)) ?_
      refine s_val rfl rfl (v_assign rfl rfl) ?_
      refine wpList_nil ?_
      refine wp_region_lit ?_
      refine s_val rfl rfl (v_move rfl hs6) ?_
      refine s_val rfl rfl (v_add rfl rfl rfl (by omega) (by omega)) ?_
      refine s_val rfl rfl (v_assign rfl rfl) ?_
      refine wpList_nil ?_
      exact ⟨gk6 - 1, _, by omega, rfl, i + 1, b1, by omega, hs1, congrArg (fun l => Value.string (bs l)) (textC_succ hy).symm, rfl, cx⟩
    · skip
      try simp only [Bool.and_eq_true, Bool.or_eq_true, Bool.and_eq_false_iff, Bool.or_eq_false_iff, Bool.not_eq_true', Bool.not_eq_false', decide_eq_true_eq, decide_eq_false_iff_not, beq_iff_eq, beq_eq_false_iff_ne, bne_iff_ne, bne_eq_false_iff_eq, ne_eq, Classical.not_not] at hc35
      refine wp_exit ?_
      refine wp_seq ?_
      refine wp_seq ?_
      refine wp_region_lit ?_
      refine s_val rfl rfl (v_assign rfl rfl) ?_
      refine wpList_nil ?_
      refine wp_block ?_
      refine w_loop (fun k f w1 => ∃ (i b1 : Nat), k + i = x.ents.length ∧ f 1 = .pointer (some ⟨b1, 0, none⟩) ∧ f 5 = .string (bs (textE x i)) ∧ f 9 = .int .i64 i ∧ Ctx w0 w1 [(b1, .cells ([.int .i64 x.fmt, .int .i64 x.size, .int .i64 x.depth, .slice a x.ents.length c, .slice a2 x.cols.length c2] : List Value).toArray 35)]) (x.ents.length) ?_ ?_
      · skip
        have hi0 : i = x.cols.length := by omega
        subst hi0
        exact ⟨0, _, by omega, hs1, hs5.trans (congrArg (fun l => Value.string (bs l)) (textE_zero x).symm), rfl, cx⟩
      intro gk11 f w hJ
      obtain ⟨i, b1, hk, hs1, hs5, hs9, cx⟩ := hJ
      refine wp_seq ?_
      refine wp_seq ?_
      refine wp_region_lit ?_
      refine s_val rfl rfl (v_move rfl hs9) ?_
      refine s_val rfl rfl (v_fa fa35_3 rfl hs1) ?_
      refine s_val rfl rfl (v_load1 rfl rfl Tryz.underlying32 rfl (cx.cell 0 rfl rfl)) ?_
      refine s_val rfl rfl (v_lenSlice rfl rfl Tryz.underlying32) ?_
      refine s_val rfl rfl (v_cmp rfl rfl rfl rfl) ?_
      refine wpList_nil ?_
      refine c_split rfl (fun hc57 => ?_) (fun hc57 => ?_)
      · skip
        try simp only [Bool.and_eq_true, Bool.or_eq_true, Bool.and_eq_false_iff, Bool.or_eq_false_iff, Bool.not_eq_true', Bool.not_eq_false', decide_eq_true_eq, decide_eq_false_iff_not, beq_iff_eq, beq_eq_false_iff_ne, bne_iff_ne, bne_eq_false_iff_eq, ne_eq, Classical.not_not] at hc57
        obtain ⟨e, he⟩ : ∃ e, x.ents[i]? = some e := ⟨x.ents[i]'(by omega), List.getElem?_eq_getElem _⟩
        obtain ⟨p, hrw, hp⟩ := hr i e he
        obtain ⟨pa, pc, rfl, hpc⟩ := hp.sl
        obtain rfl := ha (by omega)
        have hem := List.mem_of_getElem? he
        obtain ⟨hgd, hgl⟩ := chk_good hchk e hem
        obtain ⟨hr0, hr1, hr3⟩ := chk_rng hchk e hem
        have hi1 := itoa_le (n := e.fr) hr0 (by omega)
        have hi2 := itoa_le (n := e.to) (by omega) (by omega)
        have hpl := pathT_len' hgd
        have htl := textE_len hchk i (by omega)
        refine wp_skip ?_
        refine wp_seq ?_
        refine wp_block ?_
        refine wp_seq ?_
        refine wp_region_lit ?_
        refine s_val rfl rfl (v_fa fa35_3 rfl hs1) ?_
        refine s_val rfl rfl (v_load1 rfl rfl Tryz.underlying32 rfl (cx.cell 0 rfl rfl)) ?_
        refine s_val rfl rfl (v_move rfl hs9) ?_
        refine s_val rfl rfl (v_ia Tryz.underlying32 sz52 rfl rfl rfl (by omega) (by omega)) ?_
        refine s_val rfl rfl (v_load rfl rfl Tryz.underlying52 rfl sz52 (hrw.up cx.ext) rfl) ?_
        refine s_alloc cx z52 rfl rfl rfl ?_; intro b10 w cx hb10 hw10
        refine s_storeAll cx 0 rfl rfl rfl rfl rfl rfl sz52 rfl rfl ?_; intro w cx hwS13
        refine wpList_nil ?_
        refine w_quiet cx mixed (by kernel_rfl) ?_
        refine q_val rfl rfl (fun w cx hwQ => v_move rfl hs5) ?_
        refine q_val rfl rfl (fun w cx hwQ => v_fa fa52_1 rfl rfl) ?_
        refine q_val rfl rfl (fun w cx hwQ => v_fa fa48_0 rfl rfl) ?_
        refine q_val rfl rfl (fun w cx hwQ => v_load1 rfl rfl Tryz.underlying3 rfl (cx.cell 0 rfl rfl)) ?_
        refine q_call (v := .string (bs (itoa _))) rfl rfl (runs_fn Tryz.func50 rfl rfl rfl (cons_eq rfl rfl)) (fun w cx hwQ => c50 _ _ (by omega) (by omega)) ?_
        refine q_val rfl rfl (fun w cx hwQ => v_strAddB (a := (textE x i)) (b := itoa e.fr) rfl rfl rfl (by (try simp only [List.length_append, List.length_cons, List.length_nil]); omega)) ?_
        refine q_val rfl rfl (fun w cx hwQ => v_strAddB (a := ((textE x i) ++ itoa e.fr)) (b := [32]) rfl rfl rfl (by (try simp only [List.length_append, List.length_cons, List.length_nil]); omega)) ?_
        refine q_val rfl rfl (fun w cx hwQ => v_fa fa52_1 rfl rfl) ?_
        refine q_val rfl rfl (fun w cx hwQ => v_fa fa48_1 rfl rfl) ?_
        refine q_val rfl rfl (fun w cx hwQ => v_load1 rfl rfl Tryz.underlying3 rfl (cx.cell 0 rfl rfl)) ?_
        refine q_call (v := .string (bs (itoa _))) rfl rfl (runs_fn Tryz.func50 rfl rfl rfl (cons_eq rfl rfl)) (fun w cx hwQ => c50 _ _ (by omega) (by omega)) ?_
        refine q_val rfl rfl (fun w cx hwQ => v_strAddB (a := (((textE x i) ++ itoa e.fr) ++ [32])) (b := itoa e.to) rfl rfl rfl (by (try simp only [List.length_append, List.length_cons, List.length_nil]); omega)) ?_
        refine q_val rfl rfl (fun w cx hwQ => v_strAddB (a := ((((textE x i) ++ itoa e.fr) ++ [32]) ++ itoa e.to)) (b := [32]) rfl rfl rfl (by (try simp only [List.length_append, List.length_cons, List.length_nil]); omega)) ?_
        refine q_val rfl rfl (fun w cx hwQ => v_fa fa52_0 rfl rfl) ?_
        refine q_val rfl rfl (fun w cx hwQ => v_load1 rfl rfl Tryz.underlying28 rfl (cx.cell 0 rfl rfl)) ?_
        refine q_call (v := .string (bs (pathT e.path))) rfl rfl (runs_fn Tryz.func53 rfl rfl rfl (cons_eq rfl rfl)) (fun w cx hwQ => c53 _ _ _ (hp.up cx.ext) (fun s hs => (hgd.2 s hs).gds) hgd.1) ?_
        refine q_val rfl rfl (fun w cx hwQ => v_strAddB (a := (((((textE x i) ++ itoa e.fr) ++ [32]) ++ itoa e.to) ++ [32])) (b := pathT e.path) rfl rfl rfl (by (try simp only [List.length_append, List.length_cons, List.length_nil]); omega)) ?_
        refine q_val rfl rfl (fun w cx hwQ => v_strAddB (a := ((((((textE x i) ++ itoa e.fr) ++ [32]) ++ itoa e.to) ++ [32]) ++ pathT e.path)) (b := [10]) rfl rfl rfl (by (try simp only [List.length_append, List.length_cons, List.length_nil]); omega)) ?_
        refine q_val rfl rfl (fun w cx hwQ => v_assign rfl rfl) ?_
        refine q_nil ?_; rintro w ⟨cx, hwQ14⟩
        refine wp_region_lit ?_
        refine s_val rfl rfl (v_move rfl hs9) ?_
        refine s_val rfl rfl (v_add rfl rfl rfl (by omega) (by omega)) ?_
        refine s_val rfl rfl (v_assign rfl rfl) ?_
        refine wpList_nil ?_
        exact ⟨gk11 - 1, _, by omega, rfl, i + 1, b1, by omega, hs1, congrArg (fun l => Value.string (bs l)) (textE_succ he).symm, rfl, cx.drop 1⟩
      · skip
        try simp only [Bool.and_eq_true, Bool.or_eq_true, Bool.and_eq_false_iff, Bool.or_eq_false_iff, Bool.not_eq_true', Bool.not_eq_false', decide_eq_true_eq, decide_eq_false_iff_not, beq_iff_eq, beq_eq_false_iff_ne, bne_iff_ne, bne_eq_false_iff_eq, ne_eq, Classical.not_not] at hc57
        refine wp_exit ?_
        refine wp_seq ?_
        refine wp_region_lit ?_
        refine s_val rfl rfl (v_move rfl hs5) ?_
        refine s_val rfl rfl (v_assign rfl rfl) ?_
        refine s_val rfl rfl (v_assign rfl rfl) ?_
        refine wpList_nil ?_
        refine wp_ret ?_
        refine ret_tmp2 Tryz.results22 rfl rfl ?_
        have hi : i = x.ents.length := by omega
        subst hi
        refine ⟨cx.ext, ?_⟩
        rw [txtO_0 hchk, hchk]
        rfl
end Go.Proofs.YthiafbkolhnadaaGreatDoor
end
