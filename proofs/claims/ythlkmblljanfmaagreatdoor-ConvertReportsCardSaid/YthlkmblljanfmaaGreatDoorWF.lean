/-
  Several texts in one: Py By Ra Gb Gd
-/
import Derived.Test.YthlkmblljanfmaaGreatDoorWA
import Derived.Test.YthlkmblljanfmaaGreatDoorWE
section
set_option linter.unusedVariables false
namespace Go.Dk
open Go Go.RowKit Go.Lib
def shq (b : UInt8) : UInt8 := if b = 34 then 34 else if b = 92 then 92 else if b = 8 then 98 else if b = 12 then 102 else if b = 10 then 110 else if b = 13 then 114 else if b = 9 then 116 else 0
def sgq (b : UInt8) : List UInt8 := if shq b ≠ 0 then [92, shq b] else if b < 32 then [92, 117, 48, 48, hexd (b.toNat / 16), hexd (b.toNat % 16)] else [b]
def qtq (l : List UInt8) : List UInt8 := l.flatMap sgq
theorem sgq_len (b : UInt8) : (sgq b).length ≤ 6 := by
  unfold sgq
  split
  · simp
  · split <;> simp
theorem qtq_len (l : List UInt8) : (qtq l).length ≤ 6 * l.length := by
  induction l with
  | nil => simp [qtq]
  | cons b l ih =>
    have := sgq_len b
    simp only [qtq, List.flatMap_cons, List.length_append, List.length_cons] at ih ⊢
    omega
theorem qtq_take (s : ByteArray) (i : Nat) (hi : i < s.size) : qtq (s.data.toList.take (i + 1)) = qtq (s.data.toList.take i) ++ sgq (s.data.toList.getD i 0) := by
  have hi' : i < s.data.toList.length := by simpa using hi
  rw [List.take_succ_eq_append_getElem hi']
  simp [qtq, List.getD, List.getElem?_eq_getElem hi']
def cqt (s : ByteArray) : List UInt8 := [34] ++ qtq s.data.toList ++ [34]
def letB (b : Nat) : Bool := (Nat.ble 65 b && Nat.ble b 90) || (Nat.ble 97 b && Nat.ble b 122) || (Nat.ble 48 b && Nat.ble b 57) || Nat.beq b 95
theorem letB_iff (b : Nat) : letB b = true ↔ lowc (b : Int) ∨ digc (b : Int) := by
  unfold letB lowc digc
  simp only [Bool.or_eq_true, Bool.and_eq_true, Nat.ble_eq, Nat.beq_eq]
  omega
end Go.Dk
namespace Go.Dk
open Go Go.RowKit Go.Lib
theorem dgs_le (n : Nat) (h : n ≤ 4611686018427387904) : (dgs n).length ≤ 19 := by
  unfold dgs
  split
  · simp
  · exact decDigits_len 18 n (by omega)
end Go.Dk
end
section
set_option linter.unusedVariables false
set_option maxRecDepth 100000
namespace Go.Proofs.YthlkmblljanfmaaGreatDoor
open Go Go.Ev Go.RowKit Go.Dk
noncomputable def allB (E : Env0) (f : Nat) (g : Nat → Value) : Bool := (List.range 256).all fun b => match evalE Tryz.prog E 8 f [.int .u8 (.ofNat b)] with
  | some v => eqV v (g b)
  | none => false
theorem of_allB {f : Nat} {g : Nat → Value} (h : allB env0 f g = true) (m : Int) (h0 : 0 ≤ m) (h1 : m < 256) (w : World) : Fc Tryz.prog f [.int .u8 m] w fun u _ => u = g m.toNat := by
  obtain ⟨n, rfl⟩ := Int.eq_ofNat_of_zero_le h0
  have h2 := List.all_eq_true.1 h n (List.mem_range.2 (by omega))
  split at h2
  · rename_i v hv
    have e := eqV_eq h2
    subst e
    exact call_of hv w
  · cases h2
theorem sgn_k : allB env0 52 (fun b => .string (bs (sgn (UInt8.ofNat b)))) = true := by kernel_rfl
theorem let_k : allB env0 89 (fun b => .bool (letB b)) = true := by kernel_rfl
end Go.Proofs.YthlkmblljanfmaaGreatDoor
end
section
set_option linter.unusedSimpArgs false
set_option linter.unusedVariables false
namespace Go.Proofs.YthlkmblljanfmaaGreatDoor
open Go Go.Dk Go.RowKit Go.Lib
attribute [local irreducible] Go.wpList Go.Code.wp Go.bodyPost Go.wpStill Go.wpQuiet
theorem c52 (m : Int) (w : World) (h0 : 0 ≤ m) (h1 : m < 256) : Fc Tryz.prog 52 [.int .u8 m] w fun v _ => v = .string (bs (sgn (UInt8.ofNat m.toNat))) := of_allB sgn_k m h0 h1 w
theorem c89 (m : Int) (w : World) (h0 : 0 ≤ m) (h1 : m < 256) : Fc Tryz.prog 89 [.int .u8 m] w (IsB fun b => b = letB m.toNat) := (of_allB let_k m h0 h1 w).mono fun v w' _ h => ⟨_, h, rfl⟩
theorem str_w1 {m : Nat} (h : m < 10) : strOf [IntKind.u8.wrap ((48 : Int) + (m : Int))] = bs [UInt8.ofNat (48 + m)] := by
  rw [show IntKind.u8.wrap ((48 : Int) + (m : Int)) = ((UInt8.ofNat (48 + m)).toNat : Int) by rw [u8t (by omega)]; simp [IntKind.wrap, IntKind.signed, IntKind.bits]; omega]
  exact strOf_bs [UInt8.ofNat (48 + m)]
set_option maxHeartbeats 4000000 in
set_option maxRecDepth 10000 in
theorem c88 (n : Nat) (w0 : World) (hn : n ≤ 4611686018427387904) : Fc Tryz.prog 88 [.int .i64 n] w0 (fun v _ => v = .string (bs (dgs n))) := by
  refine ret_enter Tryz.func88 rfl Tryz.ntmps88 rfl ?_
  have cx := Ctx.start w0
  refine wp_seq ?_
  refine wp_region_lit ?_
  refine s_val rfl rfl (v_assign rfl rfl) ?_
  refine wpList_nil ?_
  refine wp_seq ?_
  refine wp_region_lit ?_
  refine s_val rfl rfl (v_assign rfl rfl) ?_
  refine wpList_nil ?_
  refine wp_seq ?_
  refine wp_block ?_
  refine w_loop (fun k f w1 => ∃ (m : Nat) (ac : List UInt8), k = m ∧ m ≤ n ∧ dgs m ++ ac = dgs n ∧ f 0 = .int .i64 m ∧ f 3 = .string (bs ac) ∧ Ctx w0 w1 []) (n) ?_ ?_
  · skip
    exact ⟨n, [], rfl, Nat.le_refl _, List.append_nil _, rfl, rfl, cx⟩
  intro gk2 f w hJ
  obtain ⟨m, ac, hk, hmn, hac, hs0, hs3, cx⟩ := hJ
  refine wp_seq ?_
  refine wp_seq ?_
  refine wp_region_lit ?_
  refine s_val rfl rfl (v_move rfl hs0) ?_
  refine s_val rfl rfl (v_cmp rfl rfl rfl rfl) ?_
  refine wpList_nil ?_
  refine c_split rfl (fun hc5 => ?_) (fun hc5 => ?_)
  · skip
    try simp only [Bool.and_eq_true, Bool.or_eq_true, Bool.and_eq_false_iff, Bool.or_eq_false_iff, Bool.not_eq_true', Bool.not_eq_false', decide_eq_true_eq, decide_eq_false_iff_not, beq_iff_eq, beq_eq_false_iff_ne, bne_iff_ne, bne_eq_false_iff_eq, ne_eq, Classical.not_not] at hc5
    refine wp_skip ?_
    refine wp_block ?_
    refine wp_seq ?_
    refine wp_region_lit ?_
    refine s_val rfl rfl (v_move rfl hs0) ?_
    refine s_val rfl rfl (v_rem (q := 10) rfl rfl rfl (by decide)) ?_
    refine s_val rfl rfl (v_add rfl rfl rfl (by omega) (by omega)) ?_
    refine s_val rfl rfl (v_conv rfl rfl Tryz.underlying3 Tryz.underlying5) ?_
    refine s_bsl1 cx Tryz.underlying49 sz5 z5 rfl rfl rfl rfl rfl rfl rfl rfl ?_; intro b10 w cx hb10 hw10
    refine s_val rfl rfl (v_b2s rfl Tryz.underlying49 Tryz.underlying5 Tryz.underlying9 (ns := [_]) (cx.row 0 rfl) rfl rfl) ?_
    refine s_val rfl rfl (v_move rfl hs3) ?_
    refine s_val rfl rfl (v_strAddB (a := [UInt8.ofNat (48 + m % 10)]) rfl (congrArg Value.string (str_w1 (by omega))) rfl (by have := dgs_le n hn; rw [← hac] at this; simp only [List.length_append, List.length_cons, List.length_nil] at this ⊢; omega)) ?_
    refine s_val rfl rfl (v_assign rfl rfl) ?_
    refine wpList_nil ?_
    refine wp_region_lit ?_
    refine s_val rfl rfl (v_move rfl hs0) ?_
    refine s_val rfl rfl (v_quo (q := 10) rfl rfl rfl (by omega) (by decide)) ?_
    refine s_val rfl rfl (v_assign rfl rfl) ?_
    refine wpList_nil ?_
    refine ⟨m / 10, _, by omega, rfl, m / 10, UInt8.ofNat (48 + m % 10) :: ac, rfl, by omega, ?_, rfl, rfl, Ctx.sub0 cx⟩
    rw [← hac, dgs_pos m (by omega), List.append_assoc]
    rfl
  · skip
    try simp only [Bool.and_eq_true, Bool.or_eq_true, Bool.and_eq_false_iff, Bool.or_eq_false_iff, Bool.not_eq_true', Bool.not_eq_false', decide_eq_true_eq, decide_eq_false_iff_not, beq_iff_eq, beq_eq_false_iff_ne, bne_iff_ne, bne_eq_false_iff_eq, ne_eq, Classical.not_not] at hc5
    refine wp_exit ?_
    refine wp_seq ?_
    refine wp_region_lit ?_
    refine s_val rfl rfl (v_move rfl hs3) ?_
    refine s_val rfl rfl (v_assign rfl rfl) ?_
    refine wpList_nil ?_
    refine wp_ret ?_
    refine ret_tmp Tryz.results88 rfl ?_
    have hz : m = 0 := by omega
    subst hz
    refine ⟨cx.ext, congrArg (fun l => Value.string (bs l)) ?_⟩
    exact hac
theorem c88i (n : Int) (w0 : World) (h0 : 0 ≤ n) (hn : n ≤ 4611686018427387904) : Fc Tryz.prog 88 [.int .i64 n] w0 (fun v _ => v = .string (bs (dgs n.toNat))) := by
  obtain ⟨k, rfl⟩ := Int.eq_ofNat_of_zero_le h0
  exact c88 k w0 (by omega)
set_option maxHeartbeats 4000000 in
set_option maxRecDepth 10000 in
theorem c50 (n : Int) (w0 : World) (h0 : 0 ≤ n) (hn : n ≤ 4611686018427387904) : Fc Tryz.prog 50 [.int .i64 n] w0 (fun v _ => v = .string (bs (itoa n))) := by
  refine ret_enter Tryz.func50 rfl Tryz.ntmps50 rfl ?_
  have cx := Ctx.start w0
  refine wp_seq ?_
  refine wp_region_lit ?_
  refine s_val rfl rfl (v_assign rfl rfl) ?_
  refine wpList_nil ?_
  refine wp_seq ?_
  refine wp_seq ?_
  refine wp_region_lit ?_
  refine s_val rfl rfl (v_move rfl rfl) ?_
  refine s_val rfl rfl (v_cmp rfl rfl rfl rfl) ?_
  refine wpList_nil ?_
  refine c_split rfl (fun hc4 => ?_) (fun hc4 => ?_)
  · skip
    try simp only [Bool.and_eq_true, Bool.or_eq_true, Bool.and_eq_false_iff, Bool.or_eq_false_iff, Bool.not_eq_true', Bool.not_eq_false', decide_eq_true_eq, decide_eq_false_iff_not, beq_iff_eq, beq_eq_false_iff_ne, bne_iff_ne, bne_eq_false_iff_eq, ne_eq, Classical.not_not] at hc4
    refine wp_seq ?_
    refine wp_region_lit ?_
    refine s_val rfl rfl (v_assign rfl rfl) ?_
    refine wpList_nil ?_
    refine wp_ret ?_
    refine ret_tmp Tryz.results50 rfl ?_
    subst hc4
    refine ⟨cx.ext, congrArg (fun l => Value.string (bs l)) ?_⟩
    rw [show (0 : Int) = ((0 : Nat) : Int) from rfl, itoa_nat]
    unfold decDigits
    rw [dif_pos (by decide)]
    rfl
  · skip
    try simp only [Bool.and_eq_true, Bool.or_eq_true, Bool.and_eq_false_iff, Bool.or_eq_false_iff, Bool.not_eq_true', Bool.not_eq_false', decide_eq_true_eq, decide_eq_false_iff_not, beq_iff_eq, beq_eq_false_iff_ne, bne_iff_ne, bne_eq_false_iff_eq, ne_eq, Classical.not_not] at hc4
    refine wp_skip ?_
    refine wp_seq ?_
    refine wp_region_lit ?_
    refine s_val rfl rfl (v_move rfl rfl) ?_
    refine s_fn cx (c88i _ _ (by omega) (by omega)) Tryz.func88 rfl rfl rfl rfl rfl rfl ?_; intro q6 w cx hw6 hp6
    subst hp6
    refine s_val rfl rfl (v_assign rfl rfl) ?_
    refine wpList_nil ?_
    refine wp_ret ?_
    refine ret_tmp Tryz.results50 rfl ?_
    refine ⟨cx.ext, congrArg (fun l => Value.string (bs l)) ?_⟩
    have h1 : n = ((n.toNat : Nat) : Int) := by omega
    conv => rhs; rw [h1, itoa_nat]
    unfold dgs
    rw [if_neg (by omega)]
set_option maxHeartbeats 4000000 in
set_option maxRecDepth 10000 in
theorem c51 (s : ByteArray) (w0 : World) (hs : s.size ≤ 1073741824) : Fc Tryz.prog 51 [.string s] w0 (IsB fun b => b = true ↔ isNm s) := by
  refine ret_enter Tryz.func51 rfl Tryz.ntmps51 rfl ?_
  have cx := Ctx.start w0
  refine wp_seq ?_
  refine wp_region_lit ?_
  refine s_val rfl rfl (v_assign rfl rfl) ?_
  refine wpList_nil ?_
  refine wp_seq ?_
  refine wp_seq ?_
  refine wp_region_lit ?_
  refine s_val rfl rfl (v_assign rfl rfl) ?_
  refine wpList_nil ?_
  refine wp_block ?_
  refine w_loop (fun k f w1 => ∃ i : Nat, k + i = s.size ∧ f 0 = .string s ∧ f 3 = .int .i64 i ∧ (∀ j : Nat, j < i → lowc (byteAt s j) ∨ digc (byteAt s j)) ∧ Ctx w0 w1 []) (s.size) ?_ ?_
  · skip
    exact ⟨0, by omega, rfl, rfl, fun j h => by omega, cx⟩
  intro gk2 f w hJ
  obtain ⟨i, hk, hs0, hs3, hall, cx⟩ := hJ
  refine wp_seq ?_
  refine wp_seq ?_
  refine wp_region_lit ?_
  refine s_val rfl rfl (v_move rfl hs3) ?_
  refine s_val rfl rfl (v_move rfl hs0) ?_
  refine s_val rfl rfl (v_lenString rfl rfl Tryz.underlying9) ?_
  refine s_val rfl rfl (v_cmp rfl rfl rfl rfl) ?_
  refine wpList_nil ?_
  refine c_split rfl (fun hc7 => ?_) (fun hc7 => ?_)
  · skip
    try simp only [Bool.and_eq_true, Bool.or_eq_true, Bool.and_eq_false_iff, Bool.or_eq_false_iff, Bool.not_eq_true', Bool.not_eq_false', decide_eq_true_eq, decide_eq_false_iff_not, beq_iff_eq, beq_eq_false_iff_ne, bne_iff_ne, bne_eq_false_iff_eq, ne_eq, Classical.not_not] at hc7
    refine wp_skip ?_
    refine wp_seq ?_
    refine wp_block ?_
    refine wp_seq ?_
    refine wp_region_lit ?_
    refine s_val rfl rfl (v_move rfl hs0) ?_
    refine s_val rfl rfl (v_move rfl hs3) ?_
    refine s_val rfl rfl (v_idxStr rfl rfl rfl Tryz.underlying9 (by omega) (by omega)) ?_
    refine s_fnB cx (c89 _ _ (byteAt_lo _ _) (byteAt_hi _ _)) Tryz.func89 rfl rfl rfl rfl rfl rfl ?_; intro q13 w cx hw13 hp13
    refine s_val rfl rfl (v_not rfl rfl) ?_
    refine wpList_nil ?_
    refine c_split rfl (fun hc14 => ?_) (fun hc14 => ?_)
    · skip
      try simp only [Bool.and_eq_true, Bool.or_eq_true, Bool.and_eq_false_iff, Bool.or_eq_false_iff, Bool.not_eq_true', Bool.not_eq_false', decide_eq_true_eq, decide_eq_false_iff_not, beq_iff_eq, beq_eq_false_iff_ne, bne_iff_ne, bne_eq_false_iff_eq, ne_eq, Classical.not_not] at hc14
      refine wp_seq ?_
      refine wp_region_lit ?_
      refine s_val rfl rfl (v_assign rfl rfl) ?_
      refine wpList_nil ?_
      refine wp_ret ?_
      refine ret_tmp Tryz.results51 rfl ?_
      refine ⟨cx.ext, _, rfl, (fun h => by cases h), fun h => ?_⟩
      have h2 := ((isNm_iff s).1 h).1 i (by omega)
      rw [hp13, (letB_iff _).2 (by rw [Int.toNat_of_nonneg (byteAt_lo _ _)]; exact h2)] at hc14
      cases hc14
    · skip
      try simp only [Bool.and_eq_true, Bool.or_eq_true, Bool.and_eq_false_iff, Bool.or_eq_false_iff, Bool.not_eq_true', Bool.not_eq_false', decide_eq_true_eq, decide_eq_false_iff_not, beq_iff_eq, beq_eq_false_iff_ne, bne_iff_ne, bne_eq_false_iff_eq, ne_eq, Classical.not_not] at hc14
      have hlt : lowc (byteAt s i) ∨ digc (byteAt s i) := by
        have h1 : letB (byteAt s i).toNat = true := by rw [← hp13]; simpa using hc14
        have := (letB_iff _).1 h1
        rwa [Int.toNat_of_nonneg (byteAt_lo _ _)] at this
      refine wp_skip ?_
      refine wp_region_lit ?_
      refine s_val rfl rfl (v_move rfl hs3) ?_
      refine s_val rfl rfl (v_add rfl rfl rfl (by omega) (by omega)) ?_
      refine s_val rfl rfl (v_assign rfl rfl) ?_
      refine wpList_nil ?_
      refine ⟨gk2 - 1, _, by omega, rfl, i + 1, by omega, hs0, rfl, fun j hj => ?_, cx⟩
      rcases Nat.lt_or_ge j i with h | h
      · exact hall j h
      · obtain rfl : j = i := by omega
        exact hlt
  · skip
    try simp only [Bool.and_eq_true, Bool.or_eq_true, Bool.and_eq_false_iff, Bool.or_eq_false_iff, Bool.not_eq_true', Bool.not_eq_false', decide_eq_true_eq, decide_eq_false_iff_not, beq_iff_eq, beq_eq_false_iff_ne, bne_iff_ne, bne_eq_false_iff_eq, ne_eq, Classical.not_not] at hc7
    refine wp_exit ?_
    refine wp_seq ?_
    refine wp_region_lit ?_
    refine s_val rfl rfl (v_move rfl hs0) ?_
    refine s_val rfl rfl (v_lenString rfl rfl Tryz.underlying9) ?_
    refine s_val rfl rfl (v_cmp rfl rfl rfl rfl) ?_
    refine s_val rfl rfl (v_move rfl rfl) ?_
    refine s_gval rfl rfl rfl (by first | exact w_tt rfl | exact w_gt rfl) (fun hc => v_move rfl hs0) ?_
    refine s_gval rfl rfl rfl (by first | exact w_tt rfl | exact w_gt rfl) (fun hc => v_idxStr rfl (by first | exact gve hc rfl | exact gve (and_l hc) rfl | exact gve (and_l (and_l hc)) rfl | rfl) rfl Tryz.underlying9 (by first | omega | (simp only [Bool.and_eq_true, Bool.or_eq_true, Bool.and_eq_false_iff, Bool.or_eq_false_iff, Bool.not_eq_true', Bool.not_eq_false', decide_eq_true_eq, decide_eq_false_iff_not, beq_iff_eq, beq_eq_false_iff_ne, bne_iff_ne, bne_eq_false_iff_eq, ne_eq, Classical.not_not] at hc; omega)) (by first | omega | (simp only [Bool.and_eq_true, Bool.or_eq_true, Bool.and_eq_false_iff, Bool.or_eq_false_iff, Bool.not_eq_true', Bool.not_eq_false', decide_eq_true_eq, decide_eq_false_iff_not, beq_iff_eq, beq_eq_false_iff_ne, bne_iff_ne, bne_eq_false_iff_eq, ne_eq, Classical.not_not] at hc; omega))) ?_
    refine s_gval rfl rfl rfl (by first | exact w_tt rfl | exact w_gt rfl) (fun hc => v_cmp rfl (by first | exact gve hc rfl | exact gve (and_l hc) rfl | exact gve (and_l (and_l hc)) rfl | rfl) rfl rfl) ?_
    refine s_gval rfl rfl rfl (by first | exact w_tt rfl | exact w_gt rfl) (fun hc => v_move rfl (by first | exact gve hc rfl | exact gve (and_l hc) rfl | exact gve (and_l (and_l hc)) rfl | rfl)) ?_
    refine s_gval rfl rfl rfl (by first | exact w_ff rfl | exact w_gf rfl) (fun hc => v_move rfl hs0) ?_
    refine s_gval rfl rfl rfl (by first | exact w_ff rfl | exact w_gf rfl) (fun hc => v_idxStr rfl (by first | exact gve hc rfl | exact gve (and_l hc) rfl | exact gve (and_l (and_l hc)) rfl | rfl) rfl Tryz.underlying9 (by first | omega | (simp only [Bool.and_eq_true, Bool.or_eq_true, Bool.and_eq_false_iff, Bool.or_eq_false_iff, Bool.not_eq_true', Bool.not_eq_false', decide_eq_true_eq, decide_eq_false_iff_not, beq_iff_eq, beq_eq_false_iff_ne, bne_iff_ne, bne_eq_false_iff_eq, ne_eq, Classical.not_not] at hc; omega)) (by first | omega | (simp only [Bool.and_eq_true, Bool.or_eq_true, Bool.and_eq_false_iff, Bool.or_eq_false_iff, Bool.not_eq_true', Bool.not_eq_false', decide_eq_true_eq, decide_eq_false_iff_not, beq_iff_eq, beq_eq_false_iff_ne, bne_iff_ne, bne_eq_false_iff_eq, ne_eq, Classical.not_not] at hc; omega))) ?_
    refine s_gval rfl rfl rfl (by first | exact w_ff rfl | exact w_gf rfl) (fun hc => v_cmp rfl (by first | exact gve hc rfl | exact gve (and_l hc) rfl | exact gve (and_l (and_l hc)) rfl | rfl) rfl rfl) ?_
    refine s_gval rfl rfl rfl (by first | exact w_tt rfl | exact w_gt rfl) (fun hc => v_or_g hc rfl rfl rfl rfl) ?_
    refine s_val rfl rfl (v_and rfl rfl rfl rfl) ?_
    refine s_val rfl rfl (v_assign rfl rfl) ?_
    refine wpList_nil ?_
    refine wp_ret ?_
    refine ret_tmp Tryz.results51 rfl ?_
    refine ⟨cx.ext, _, rfl, ?_⟩
    rw [isNm_iff]
    have hall' : ∀ j : Nat, j < s.size → lowc (byteAt s j) ∨ digc (byteAt s j) := fun j hj => hall j (by omega)
    have hlo := byteAt_lo s (0 : Nat)
    simp only [Bool.and_eq_true, Bool.or_eq_true, decide_eq_true_eq]
    constructor
    · rintro ⟨h1, h2⟩
      exact ⟨hall', by omega, by unfold digc; rcases h2 with h2 | h2 <;> (have h3 : byteAt s (0 : Nat) < 48 ∨ 57 < byteAt s (0 : Nat) := by first | exact .inl h2 | exact .inr h2) <;> omega⟩
    · rintro ⟨_, h1, h2⟩
      refine ⟨by omega, ?_⟩
      unfold digc at h2
      have h3 : byteAt s (0 : Nat) < 48 ∨ 57 < byteAt s (0 : Nat) := by omega
      exact h3
set_option maxHeartbeats 4000000 in
set_option maxRecDepth 10000 in
theorem c28 (x : Stp) (w0 : World) (hg : GdS x) : Fc Tryz.prog 28 [.agg (srow x).toArray] w0 (fun v _ => v = .string (bs (stpT x))) := by
  refine ret_enter Tryz.func28 rfl Tryz.ntmps28 rfl ?_
  have cx := Ctx.start w0
  refine wp_seq ?_
  refine wp_region_lit ?_
  refine s_box cx rfl rfl rfl rfl rfl ?_; intro b1 w cx hb1 hw1
  refine s_val rfl rfl (v_assign rfl rfl) ?_
  refine wpList_nil ?_
  refine wp_seq ?_
  refine wp_seq ?_
  refine wp_region_lit ?_
  refine s_val rfl rfl (v_fa fa46_0 rfl rfl) ?_
  refine s_val rfl rfl (v_load1 rfl rfl Tryz.underlying4 rfl (cx.cell 0 rfl rfl)) ?_
  refine wpList_nil ?_
  refine c_split rfl (fun hc6 => ?_) (fun hc6 => ?_)
  · skip
    try simp only [Bool.and_eq_true, Bool.or_eq_true, Bool.and_eq_false_iff, Bool.or_eq_false_iff, Bool.not_eq_true', Bool.not_eq_false', decide_eq_true_eq, decide_eq_false_iff_not, beq_iff_eq, beq_eq_false_iff_ne, bne_iff_ne, bne_eq_false_iff_eq, ne_eq, Classical.not_not] at hc6
    have hix := hg.1 hc6
    have hil := itoa_le hix.1 (by omega)
    refine wp_seq ?_
    refine wp_region_lit ?_
    refine s_val rfl rfl (v_fa fa46_2 rfl rfl) ?_
    refine s_val rfl rfl (v_load1 rfl rfl Tryz.underlying3 rfl (cx.cell 0 rfl rfl)) ?_
    refine s_fn cx (c50 _ _ (by omega) (by omega)) Tryz.func50 rfl rfl rfl rfl rfl rfl ?_; intro q9 w cx hw9 hp9
    subst hp9
    refine s_val rfl rfl (v_strAddB (a := [91]) (b := itoa x.index) rfl rfl rfl (by simp only [List.length_append, List.length_cons, List.length_nil, List.length_map]; omega)) ?_
    refine s_val rfl rfl (v_strAddB (a := ([91] ++ itoa x.index)) (b := [93]) rfl rfl rfl (by simp only [List.length_append, List.length_cons, List.length_nil, List.length_map]; omega)) ?_
    refine s_val rfl rfl (v_assign rfl rfl) ?_
    refine wpList_nil ?_
    refine wp_ret ?_
    refine ret_tmp Tryz.results28 rfl ?_
    refine ⟨cx.ext, congrArg (fun l => Value.string (bs l)) ?_⟩
    exact (step_ix hc6).symm
  · skip
    try simp only [Bool.and_eq_true, Bool.or_eq_true, Bool.and_eq_false_iff, Bool.or_eq_false_iff, Bool.not_eq_true', Bool.not_eq_false', decide_eq_true_eq, decide_eq_false_iff_not, beq_iff_eq, beq_eq_false_iff_ne, bne_iff_ne, bne_eq_false_iff_eq, ne_eq, Classical.not_not] at hc6
    have hkl := hg.2 hc6
    have hls0 : x.key.data.toList.length = x.key.size := by simp
    refine wp_skip ?_
    refine wp_seq ?_
    refine wp_seq ?_
    refine wp_region_lit ?_
    refine s_val rfl rfl (v_fa fa46_1 rfl rfl) ?_
    refine s_val rfl rfl (v_load1 rfl rfl Tryz.underlying9 rfl (cx.cell 0 rfl rfl)) ?_
    refine s_fnB cx (c51 _ _ (by omega)) Tryz.func51 rfl rfl rfl rfl rfl rfl ?_; intro q14 w cx hw14 hp14
    refine wpList_nil ?_
    refine c_split rfl (fun hc14 => ?_) (fun hc14 => ?_)
    · skip
      try simp only [Bool.and_eq_true, Bool.or_eq_true, Bool.and_eq_false_iff, Bool.or_eq_false_iff, Bool.not_eq_true', Bool.not_eq_false', decide_eq_true_eq, decide_eq_false_iff_not, beq_iff_eq, beq_eq_false_iff_ne, bne_iff_ne, bne_eq_false_iff_eq, ne_eq, Classical.not_not] at hc14
      refine wp_seq ?_
      refine wp_region_lit ?_
      refine s_val rfl rfl (v_fa fa46_1 rfl rfl) ?_
      refine s_val rfl rfl (v_load1 rfl rfl Tryz.underlying9 rfl (cx.cell 0 rfl rfl)) ?_
      refine s_val rfl rfl (v_strAddB (a := [46]) (b := x.key.data.toList) rfl rfl rfl (by simp only [List.length_append, List.length_cons, List.length_nil, List.length_map]; omega)) ?_
      refine s_val rfl rfl (v_assign rfl rfl) ?_
      refine wpList_nil ?_
      refine wp_ret ?_
      refine ret_tmp Tryz.results28 rfl ?_
      refine ⟨cx.ext, congrArg (fun l => Value.string (bs l)) ?_⟩
      exact (step_nm hc6 (hp14.1 hc14)).symm
    · skip
      try simp only [Bool.and_eq_true, Bool.or_eq_true, Bool.and_eq_false_iff, Bool.or_eq_false_iff, Bool.not_eq_true', Bool.not_eq_false', decide_eq_true_eq, decide_eq_false_iff_not, beq_iff_eq, beq_eq_false_iff_ne, bne_iff_ne, bne_eq_false_iff_eq, ne_eq, Classical.not_not] at hc14
      refine wp_skip ?_
      refine wp_seq ?_
      refine wp_region_lit ?_
      refine s_val rfl rfl (v_assign rfl rfl) ?_
      refine wpList_nil ?_
      refine wp_seq ?_
      refine wp_seq ?_
      refine wp_region_lit ?_
      refine s_val rfl rfl (v_assign rfl rfl) ?_
      refine wpList_nil ?_
      refine wp_block ?_
      refine w_loop (fun k f w1 => ∃ (i b1 : Nat), k + i = x.key.size ∧ f 1 = .pointer (some ⟨b1, 0, none⟩) ∧ f 4 = .int .i64 i ∧ f 3 = .string (bs ([46, 34] ++ (qtd (x.key.data.toList.take i)))) ∧ Ctx w0 w1 [(b1, .cells (srow x).toArray 46)]) (x.key.size) ?_ ?_
      · skip
        exact ⟨0, _, by omega, rfl, rfl, by simp [qtd]; rfl, cx⟩
      intro gk7 f w hJ
      obtain ⟨i, b1, hk, hs1, hs4, hs3, cx⟩ := hJ
      have hlq := qtd_len (x.key.data.toList.take i)
      have hlt := List.length_take_le i x.key.data.toList
      have hls : x.key.data.toList.length = x.key.size := by simp
      have hlx := sgn_len (UInt8.ofNat (byteAt x.key i).toNat)
      refine wp_seq ?_
      refine wp_seq ?_
      refine wp_region_lit ?_
      refine s_val rfl rfl (v_move rfl hs4) ?_
      refine s_val rfl rfl (v_fa fa46_1 rfl hs1) ?_
      refine s_val rfl rfl (v_load1 rfl rfl Tryz.underlying9 rfl (cx.cell 0 rfl rfl)) ?_
      refine s_val rfl rfl (v_lenString rfl rfl Tryz.underlying9) ?_
      refine s_val rfl rfl (v_cmp rfl rfl rfl rfl) ?_
      refine wpList_nil ?_
      refine c_split rfl (fun hc22 => ?_) (fun hc22 => ?_)
      · skip
        try simp only [Bool.and_eq_true, Bool.or_eq_true, Bool.and_eq_false_iff, Bool.or_eq_false_iff, Bool.not_eq_true', Bool.not_eq_false', decide_eq_true_eq, decide_eq_false_iff_not, beq_iff_eq, beq_eq_false_iff_ne, bne_iff_ne, bne_eq_false_iff_eq, ne_eq, Classical.not_not] at hc22
        refine wp_skip ?_
        refine wp_seq ?_
        refine wp_block ?_
        refine wp_region_lit ?_
        refine s_val rfl rfl (v_move rfl hs3) ?_
        refine s_val rfl rfl (v_fa fa46_1 rfl hs1) ?_
        refine s_val rfl rfl (v_load1 rfl rfl Tryz.underlying9 rfl (cx.cell 0 rfl rfl)) ?_
        refine s_val rfl rfl (v_move rfl hs4) ?_
        refine s_val rfl rfl (v_idxStr rfl rfl rfl Tryz.underlying9 (by omega) (by omega)) ?_
        refine s_fn cx (c52 _ _ (byteAt_lo _ _) (byteAt_hi _ _)) Tryz.func52 rfl rfl rfl rfl rfl rfl ?_; intro q30 w cx hw30 hp30
        subst hp30
        refine s_val rfl rfl (v_strAddB (a := ([46, 34] ++ (qtd (x.key.data.toList.take i)))) (b := (sgn (UInt8.ofNat (byteAt x.key i).toNat))) rfl rfl rfl (by simp only [List.length_append, List.length_cons, List.length_nil, List.length_map]; omega)) ?_
        refine s_val rfl rfl (v_assign rfl rfl) ?_
        refine wpList_nil ?_
        refine wp_region_lit ?_
        refine s_val rfl rfl (v_move rfl hs4) ?_
        refine s_val rfl rfl (v_add rfl rfl rfl (by omega) (by omega)) ?_
        refine s_val rfl rfl (v_assign rfl rfl) ?_
        refine wpList_nil ?_
        have hq := qtd_take x.key i (by omega)
        have hb : UInt8.ofNat (byteAt x.key i).toNat = x.key.data.toList.getD i 0 := by unfold byteAt; rw [Int.toNat_natCast, Int.toNat_natCast]; exact UInt8.ofNat_toNat
        refine ⟨gk7 - 1, _, by omega, rfl, i + 1, b1, by omega, hs1, rfl, congrArg (fun l => Value.string (bs l)) ?_, cx⟩
        rw [hq, hb, List.append_assoc]
      · skip
        try simp only [Bool.and_eq_true, Bool.or_eq_true, Bool.and_eq_false_iff, Bool.or_eq_false_iff, Bool.not_eq_true', Bool.not_eq_false', decide_eq_true_eq, decide_eq_false_iff_not, beq_iff_eq, beq_eq_false_iff_ne, bne_iff_ne, bne_eq_false_iff_eq, ne_eq, Classical.not_not] at hc22
        refine wp_exit ?_
        refine wp_seq ?_
        refine wp_region_lit ?_
        refine s_val rfl rfl (v_move rfl hs3) ?_
        refine s_val rfl rfl (v_strAddB (a := ([46, 34] ++ (qtd (x.key.data.toList.take i)))) (b := [34]) rfl rfl rfl (by simp only [List.length_append, List.length_cons, List.length_nil, List.length_map]; omega)) ?_
        refine s_val rfl rfl (v_assign rfl rfl) ?_
        refine wpList_nil ?_
        refine wp_ret ?_
        refine ret_tmp Tryz.results28 rfl ?_
        refine ⟨cx.ext, congrArg (fun l => Value.string (bs l)) ?_⟩
        rw [step_qt hc6 (fun h => by rw [hp14.2 h] at hc14; cases hc14)]
        have hi : i = x.key.size := by omega
        subst hi
        rw [show x.key.data.toList.take x.key.size = x.key.data.toList from List.take_of_length_le (by simp)]
        rfl
set_option maxHeartbeats 4000000 in
set_option maxRecDepth 10000 in
theorem c13 (v : Value) (l : List Stp) (w0 : World) (hv : Pth w0 v l) (hg : ∀ s ∈ l, GdS s) (hl : l.length ≤ 48) : Fc Tryz.prog 13 [v] w0 (fun v _ => v = .string (bs (pathT l))) := by
  obtain ⟨a, c, b, o, rfl, ha, hr⟩ := hv.form
  refine ret_enter Tryz.func13 rfl Tryz.ntmps13 rfl ?_
  have cx := Ctx.start w0
  refine wp_seq ?_
  refine wp_region_lit ?_
  refine s_val rfl rfl (v_assign rfl rfl) ?_
  refine wpList_nil ?_
  refine wp_seq ?_
  refine wp_seq ?_
  refine wp_region_lit ?_
  refine s_val rfl rfl (v_move rfl rfl) ?_
  refine s_val rfl rfl (v_lenSlice rfl rfl Tryz.underlying25) ?_
  refine s_val rfl rfl (v_cmp rfl rfl rfl rfl) ?_
  refine wpList_nil ?_
  refine c_split rfl (fun hc7 => ?_) (fun hc7 => ?_)
  · skip
    try simp only [Bool.and_eq_true, Bool.or_eq_true, Bool.and_eq_false_iff, Bool.or_eq_false_iff, Bool.not_eq_true', Bool.not_eq_false', decide_eq_true_eq, decide_eq_false_iff_not, beq_iff_eq, beq_eq_false_iff_ne, bne_iff_ne, bne_eq_false_iff_eq, ne_eq, Classical.not_not] at hc7
    refine wp_seq ?_
    refine wp_region_lit ?_
    refine s_val rfl rfl (v_assign rfl rfl) ?_
    refine wpList_nil ?_
    refine wp_ret ?_
    refine ret_tmp Tryz.results13 rfl ?_
    have e : l = [] := List.eq_nil_of_length_eq_zero (by omega)
    subst e
    exact ⟨cx.ext, rfl⟩
  · skip
    try simp only [Bool.and_eq_true, Bool.or_eq_true, Bool.and_eq_false_iff, Bool.or_eq_false_iff, Bool.not_eq_true', Bool.not_eq_false', decide_eq_true_eq, decide_eq_false_iff_not, beq_iff_eq, beq_eq_false_iff_ne, bne_iff_ne, bne_eq_false_iff_eq, ne_eq, Classical.not_not] at hc7
    have hne : l ≠ [] := by rintro rfl; simp at hc7
    have hpos : 0 < l.length := List.length_pos_iff.2 hne
    obtain ⟨x0, hx0⟩ : ∃ x, l[0]? = some x := ⟨l[0]'hpos, List.getElem?_eq_getElem _⟩
    have hr0 := hr 0 x0 hx0
    obtain rfl := ha hpos
    refine wp_skip ?_
    refine wp_seq ?_
    refine wp_region_lit ?_
    refine s_val rfl rfl (v_assign rfl rfl) ?_
    refine wpList_nil ?_
    refine w_cut (fun f w1 => f 0 = .slice (some ⟨b, o, none⟩) l.length c ∧ f 3 = .string (bs (ldp l)) ∧ Ctx w0 w1 []) ?_ ?_
    · skip
      refine wp_seq ?_
      refine wp_region_lit ?_
      refine s_val rfl rfl (v_move rfl rfl) ?_
      refine s_val rfl rfl (v_ia Tryz.underlying25 sz46 rfl rfl rfl (by omega) (by omega)) ?_
      refine s_val rfl rfl (v_fa fa46_0 rfl rfl) ?_
      refine s_val rfl rfl (v_load1 rfl rfl Tryz.underlying4 rfl ((hr0.up cx.ext).cell 0 rfl)) ?_
      refine wpList_nil ?_
      refine c_split rfl (fun hc11 => ?_) (fun hc11 => ?_)
      · skip
        try simp only [Bool.and_eq_true, Bool.or_eq_true, Bool.and_eq_false_iff, Bool.or_eq_false_iff, Bool.not_eq_true', Bool.not_eq_false', decide_eq_true_eq, decide_eq_false_iff_not, beq_iff_eq, beq_eq_false_iff_ne, bne_iff_ne, bne_eq_false_iff_eq, ne_eq, Classical.not_not] at hc11
        refine wp_region_lit ?_
        refine s_val rfl rfl (v_assign rfl rfl) ?_
        refine wpList_nil ?_
        first | exact ⟨_, rfl, rfl, by rw [ldp_T hx0 hc11]; rfl, cx⟩ | exact ⟨_, rfl, rfl, by rw [ldp_F hx0 hc11]; rfl, cx⟩
      · skip
        try simp only [Bool.and_eq_true, Bool.or_eq_true, Bool.and_eq_false_iff, Bool.or_eq_false_iff, Bool.not_eq_true', Bool.not_eq_false', decide_eq_true_eq, decide_eq_false_iff_not, beq_iff_eq, beq_eq_false_iff_ne, bne_iff_ne, bne_eq_false_iff_eq, ne_eq, Classical.not_not] at hc11
        refine wp_skip ?_
        first | exact ⟨_, rfl, rfl, by rw [ldp_T hx0 hc11]; rfl, cx⟩ | exact ⟨_, rfl, rfl, by rw [ldp_F hx0 hc11]; rfl, cx⟩
    intro f w hJ
    obtain ⟨hs0, hs3, cx⟩ := hJ
    refine wp_seq ?_
    refine wp_seq ?_
    refine wp_region_lit ?_
    refine s_val rfl rfl (v_assign rfl rfl) ?_
    refine wpList_nil ?_
    refine wp_block ?_
    refine w_loop (fun k f w1 => ∃ i : Nat, k + i = l.length ∧ f 0 = .slice (some ⟨b, o, none⟩) l.length c ∧ f 4 = .int .i64 i ∧ f 3 = .string (bs (ldp l ++ (l.take i).flatMap stpT)) ∧ Ctx w0 w1 []) (l.length) ?_ ?_
    · skip
      exact ⟨0, by omega, hs0, rfl, hs3.trans (by simp), cx⟩
    intro gk7 f w hJ
    obtain ⟨i, hk, hs0, hs4, hs3, cx⟩ := hJ
    refine wp_seq ?_
    refine wp_seq ?_
    refine wp_region_lit ?_
    refine s_val rfl rfl (v_move rfl hs4) ?_
    refine s_val rfl rfl (v_move rfl hs0) ?_
    refine s_val rfl rfl (v_lenSlice rfl rfl Tryz.underlying25) ?_
    refine s_val rfl rfl (v_cmp rfl rfl rfl rfl) ?_
    refine wpList_nil ?_
    refine c_split rfl (fun hc15 => ?_) (fun hc15 => ?_)
    · skip
      try simp only [Bool.and_eq_true, Bool.or_eq_true, Bool.and_eq_false_iff, Bool.or_eq_false_iff, Bool.not_eq_true', Bool.not_eq_false', decide_eq_true_eq, decide_eq_false_iff_not, beq_iff_eq, beq_eq_false_iff_ne, bne_iff_ne, bne_eq_false_iff_eq, ne_eq, Classical.not_not] at hc15
      obtain ⟨x, hx⟩ : ∃ x, l[i]? = some x := ⟨l[i]'(by omega), List.getElem?_eq_getElem _⟩
      have hrw := hr i x hx
      have hgx := hg x (List.mem_of_getElem? hx)
      have hll := ldp_le l
      have hfl := flat_len (l := l.take i) (fun y hy => hg y (List.mem_of_mem_take hy))
      rw [List.length_take] at hfl
      have hsl := stepT_len hgx
      refine wp_skip ?_
      refine wp_seq ?_
      refine wp_block ?_
      refine wp_region_lit ?_
      refine s_val rfl rfl (v_move rfl hs3) ?_
      refine s_val rfl rfl (v_move rfl hs0) ?_
      refine s_val rfl rfl (v_move rfl hs4) ?_
      refine s_val rfl rfl (v_ia Tryz.underlying25 sz46 rfl rfl rfl (by omega) (by omega)) ?_
      refine s_val rfl rfl (v_load rfl rfl Tryz.underlying46 rfl sz46 (hrw.up cx.ext) rfl) ?_
      refine s_fn cx (c28 x _ hgx) Tryz.func28 rfl rfl rfl rfl rfl rfl ?_; intro q23 w cx hw23 hp23
      subst hp23
      refine s_val rfl rfl (v_strAddB (a := (ldp l ++ (l.take i).flatMap stpT)) (b := (stpT x)) rfl rfl rfl (by simp only [List.length_append, List.length_cons, List.length_nil, List.length_map]; omega)) ?_
      refine s_val rfl rfl (v_assign rfl rfl) ?_
      refine wpList_nil ?_
      refine wp_region_lit ?_
      refine s_val rfl rfl (v_move rfl hs4) ?_
      refine s_val rfl rfl (v_add rfl rfl rfl (by omega) (by omega)) ?_
      refine s_val rfl rfl (v_assign rfl rfl) ?_
      refine wpList_nil ?_
      have hq : ldp l ++ (l.take (i + 1)).flatMap stpT = (ldp l ++ (l.take i).flatMap stpT) ++ stpT x := by rw [flat_take l i x hx, List.append_assoc]
      refine ⟨gk7 - 1, _, by omega, rfl, i + 1, by omega, hs0, rfl, congrArg (fun l => Value.string (bs l)) hq.symm, cx⟩
    · skip
      try simp only [Bool.and_eq_true, Bool.or_eq_true, Bool.and_eq_false_iff, Bool.or_eq_false_iff, Bool.not_eq_true', Bool.not_eq_false', decide_eq_true_eq, decide_eq_false_iff_not, beq_iff_eq, beq_eq_false_iff_ne, bne_iff_ne, bne_eq_false_iff_eq, ne_eq, Classical.not_not] at hc15
      refine wp_exit ?_
      refine wp_seq ?_
      refine wp_region_lit ?_
      refine s_val rfl rfl (v_move rfl hs3) ?_
      refine s_val rfl rfl (v_assign rfl rfl) ?_
      refine wpList_nil ?_
      refine wp_ret ?_
      refine ret_tmp Tryz.results13 rfl ?_
      refine ⟨cx.ext, congrArg (fun l => Value.string (bs l)) ?_⟩
      have hi : i = l.length := by omega
      subst hi
      rw [List.take_length]
      exact (path_ldp hne).symm
end Go.Proofs.YthlkmblljanfmaaGreatDoor
end
section
set_option linter.unusedSimpArgs false
set_option linter.unusedVariables false
namespace Go.Proofs.YthlkmblljanfmaaGreatDoor
open Go Go.Dk Go.RowKit Go.Lib
attribute [local irreducible] Go.wpList Go.Code.wp Go.bodyPost Go.wpStill
set_option maxRecDepth 10000 in
theorem c131 (r : Nat) (w0 : World) : Fc Tryz.prog 131 [.int .i64 r] w0 (IsB fun b => b = chN r) := by
  refine ret_enter Tryz.func131 rfl Tryz.ntmps131 rfl ?_
  have cx := Ctx.start w0
  refine wp_seq ?_
  refine wp_region_lit ?_
  refine s_val rfl rfl (v_assign rfl rfl) ?_
  refine wpList_nil ?_
  refine wp_seq ?_
  refine wp_region_lit ?_
  refine s_val rfl rfl (v_move rfl rfl) ?_
  refine s_val rfl rfl (v_cmp rfl rfl rfl rfl) ?_
  refine s_val rfl rfl (v_move rfl rfl) ?_
  refine s_gval rfl rfl rfl (by first | exact w_tt rfl | exact w_gt rfl) (fun hc => v_move rfl (by first | exact gve hc rfl | exact gve (and_l hc) rfl | exact gve (and_l (and_l hc)) rfl | rfl)) ?_
  refine s_gval rfl rfl rfl (by first | exact w_tt rfl | exact w_gt rfl) (fun hc => v_cmp rfl (by first | exact gve hc rfl | exact gve (and_l hc) rfl | exact gve (and_l (and_l hc)) rfl | rfl) rfl rfl) ?_
  refine s_val rfl rfl (v_and rfl rfl rfl rfl) ?_
  refine s_val rfl rfl (v_move rfl rfl) ?_
  refine s_gval rfl rfl rfl (by first | exact w_tt rfl | exact w_gt rfl) (fun hc => v_move rfl (by first | exact gve hc rfl | exact gve (and_l hc) rfl | exact gve (and_l (and_l hc)) rfl | rfl)) ?_
  refine s_gval rfl rfl rfl (by first | exact w_tt rfl | exact w_gt rfl) (fun hc => v_cmp rfl (by first | exact gve hc rfl | exact gve (and_l hc) rfl | exact gve (and_l (and_l hc)) rfl | rfl) rfl rfl) ?_
  refine s_gval rfl rfl rfl (by first | exact w_tt rfl | exact w_gt rfl) (fun hc => v_move rfl (by first | exact gve hc rfl | exact gve (and_l hc) rfl | exact gve (and_l (and_l hc)) rfl | rfl)) ?_
  refine s_gval rfl rfl rfl (by first | exact w_ff rfl | exact w_gf rfl) (fun hc => v_move rfl (by first | exact gve hc rfl | exact gve (and_l hc) rfl | exact gve (and_l (and_l hc)) rfl | rfl)) ?_
  refine s_gval rfl rfl rfl (by first | exact w_ff rfl | exact w_gf rfl) (fun hc => v_cmp rfl (by first | exact gve hc rfl | exact gve (and_l hc) rfl | exact gve (and_l (and_l hc)) rfl | rfl) rfl rfl) ?_
  refine s_gval rfl rfl rfl (by first | exact w_tt rfl | exact w_gt rfl) (fun hc => v_or_g hc rfl rfl rfl rfl) ?_
  refine s_val rfl rfl (v_and rfl rfl rfl rfl) ?_
  refine s_val rfl rfl (v_assign rfl rfl) ?_
  refine wpList_nil ?_
  refine wp_ret ?_
  refine ret_tmp Tryz.results131 rfl ?_
  refine ⟨cx.ext, _, rfl, ?_⟩
  show (_ : Bool) = chN r
  rw [Bool.eq_iff_iff, chN_iff]
  simp only [Bool.and_eq_true, Bool.or_eq_true, decide_eq_true_eq]
  omega
set_option maxRecDepth 10000 in
theorem c186 (r : Nat) (w0 : World) : Fc Tryz.prog 186 [.int .i64 r] w0 (IsB fun b => b = chN r) := by
  refine ret_enter Tryz.func186 rfl Tryz.ntmps186 rfl ?_
  have cx := Ctx.start w0
  refine wp_seq ?_
  refine wp_region_lit ?_
  refine s_val rfl rfl (v_assign rfl rfl) ?_
  refine wpList_nil ?_
  refine wp_seq ?_
  refine wp_region_lit ?_
  refine s_val rfl rfl (v_move rfl rfl) ?_
  refine s_val rfl rfl (v_cmp rfl rfl rfl rfl) ?_
  refine s_val rfl rfl (v_move rfl rfl) ?_
  refine s_gval rfl rfl rfl (by first | exact w_tt rfl | exact w_gt rfl) (fun hc => v_move rfl (by first | exact gve hc rfl | exact gve (and_l hc) rfl | exact gve (and_l (and_l hc)) rfl | rfl)) ?_
  refine s_gval rfl rfl rfl (by first | exact w_tt rfl | exact w_gt rfl) (fun hc => v_cmp rfl (by first | exact gve hc rfl | exact gve (and_l hc) rfl | exact gve (and_l (and_l hc)) rfl | rfl) rfl rfl) ?_
  refine s_val rfl rfl (v_and rfl rfl rfl rfl) ?_
  refine s_val rfl rfl (v_move rfl rfl) ?_
  refine s_gval rfl rfl rfl (by first | exact w_tt rfl | exact w_gt rfl) (fun hc => v_move rfl (by first | exact gve hc rfl | exact gve (and_l hc) rfl | exact gve (and_l (and_l hc)) rfl | rfl)) ?_
  refine s_gval rfl rfl rfl (by first | exact w_tt rfl | exact w_gt rfl) (fun hc => v_cmp rfl (by first | exact gve hc rfl | exact gve (and_l hc) rfl | exact gve (and_l (and_l hc)) rfl | rfl) rfl rfl) ?_
  refine s_gval rfl rfl rfl (by first | exact w_tt rfl | exact w_gt rfl) (fun hc => v_move rfl (by first | exact gve hc rfl | exact gve (and_l hc) rfl | exact gve (and_l (and_l hc)) rfl | rfl)) ?_
  refine s_gval rfl rfl rfl (by first | exact w_ff rfl | exact w_gf rfl) (fun hc => v_move rfl (by first | exact gve hc rfl | exact gve (and_l hc) rfl | exact gve (and_l (and_l hc)) rfl | rfl)) ?_
  refine s_gval rfl rfl rfl (by first | exact w_ff rfl | exact w_gf rfl) (fun hc => v_cmp rfl (by first | exact gve hc rfl | exact gve (and_l hc) rfl | exact gve (and_l (and_l hc)) rfl | rfl) rfl rfl) ?_
  refine s_gval rfl rfl rfl (by first | exact w_tt rfl | exact w_gt rfl) (fun hc => v_or_g hc rfl rfl rfl rfl) ?_
  refine s_val rfl rfl (v_and rfl rfl rfl rfl) ?_
  refine s_val rfl rfl (v_assign rfl rfl) ?_
  refine wpList_nil ?_
  refine wp_ret ?_
  refine ret_tmp Tryz.results186 rfl ?_
  refine ⟨cx.ext, _, rfl, ?_⟩
  show (_ : Bool) = chN r
  rw [Bool.eq_iff_iff, chN_iff]
  simp only [Bool.and_eq_true, Bool.or_eq_true, decide_eq_true_eq]
  omega
set_option maxRecDepth 10000 in
theorem c86 (r : Nat) (w0 : World) (hr : r < 4294967296) : Fc Tryz.prog 86 [.int .i64 r] w0 (fun v _ => v = .tuple #[.string (bs (encN r)), .int .i64 (if chN r = true then 0 else 2)]) := by
  refine ret_enter Tryz.func86 rfl Tryz.ntmps86 rfl ?_
  have cx := Ctx.start w0
  refine wp_seq ?_
  refine wp_region_lit ?_
  refine s_val rfl rfl (v_assign rfl rfl) ?_
  refine s_val rfl rfl (v_assign rfl rfl) ?_
  refine wpList_nil ?_
  refine wp_seq ?_
  refine wp_block ?_
  refine wp_seq ?_
  refine wp_region_lit ?_
  refine s_val rfl rfl (v_move rfl rfl) ?_
  refine s_fnB cx (c131 _ _) Tryz.func131 rfl rfl rfl rfl rfl rfl ?_; intro q6 w cx hw6 hp6
  refine s_val rfl rfl (v_not rfl rfl) ?_
  refine s_val rfl rfl (v_assign rfl rfl) ?_
  refine wpList_nil ?_
  refine c_split rfl (fun hc4 => ?_) (fun hc4 => ?_)
  · skip
    have hch : chN r = false := by rw [← hp6]; simpa using hc4
    refine wp_seq ?_
    refine wp_region_lit ?_
    refine s_val rfl rfl (v_assign rfl rfl) ?_
    refine s_val rfl rfl (v_assign rfl rfl) ?_
    refine wpList_nil ?_
    refine wp_ret ?_
    refine ret_tmp2 Tryz.results86 rfl rfl ?_
    have he : encN r = [] := by unfold encN; rw [if_pos hch]
    have h2 : (2 : Int) = (if chN r = true then 0 else 2) := by rw [if_neg (by rw [hch]; exact Bool.noConfusion)]
    refine ⟨cx.ext, ?_⟩
    refine tup_s ?_ h2 rfl rfl
    rw [he]
    rfl
  · skip
    have hch : chN r = true := by rw [← hp6]; simpa using hc4
    refine wp_seq ?_
    refine wp_region_lit ?_
    refine s_val rfl rfl (v_move rfl rfl) ?_
    refine s_val rfl rfl (v_cmp rfl rfl rfl rfl) ?_
    refine s_val rfl rfl (v_assign rfl rfl) ?_
    refine wpList_nil ?_
    refine c_split rfl (fun hc8 => ?_) (fun hc8 => ?_)
    · skip
      try simp only [Bool.and_eq_true, Bool.or_eq_true, Bool.and_eq_false_iff, Bool.or_eq_false_iff, Bool.not_eq_true', Bool.not_eq_false', decide_eq_true_eq, decide_eq_false_iff_not, beq_iff_eq, beq_eq_false_iff_ne, bne_iff_ne, bne_eq_false_iff_eq, ne_eq, Classical.not_not] at hc8
      refine wp_seq ?_
      refine wp_region_lit ?_
      refine s_val rfl rfl (v_move rfl rfl) ?_
      refine s_val rfl rfl (v_conv rfl rfl Tryz.underlying3 Tryz.underlying5) ?_
      refine s_bsl1 cx Tryz.underlying49 sz5 z5 rfl rfl rfl rfl rfl rfl rfl rfl ?_; intro b13 w cx hb13 hw13
      refine s_val rfl rfl (v_b2s rfl Tryz.underlying49 Tryz.underlying5 Tryz.underlying9 (ns := [_]) (cx.row 0 rfl) rfl rfl) ?_
      refine s_val rfl rfl (v_assign rfl rfl) ?_
      refine s_val rfl rfl (v_assign rfl rfl) ?_
      refine wpList_nil ?_
      refine wp_ret ?_
      refine ret_tmp2 Tryz.results86 rfl rfl ?_
      have he : encN r = [UInt8.ofNat r] := by
        unfold encN
        rw [if_neg (by rw [hch]; exact Bool.noConfusion)]; rw [if_pos (by omega)]
      have h2 : (0 : Int) = (if chN r = true then 0 else 2) := by rw [if_pos hch]
      refine ⟨cx.ext, ?_⟩
      refine tup_s ?_ h2 rfl rfl
      rw [he]
      exact strOf_w1 (by omega)
    · skip
      try simp only [Bool.and_eq_true, Bool.or_eq_true, Bool.and_eq_false_iff, Bool.or_eq_false_iff, Bool.not_eq_true', Bool.not_eq_false', decide_eq_true_eq, decide_eq_false_iff_not, beq_iff_eq, beq_eq_false_iff_ne, bne_iff_ne, bne_eq_false_iff_eq, ne_eq, Classical.not_not] at hc8
      refine wp_seq ?_
      refine wp_region_lit ?_
      refine s_val rfl rfl (v_move rfl rfl) ?_
      refine s_val rfl rfl (v_cmp rfl rfl rfl rfl) ?_
      refine s_val rfl rfl (v_assign rfl rfl) ?_
      refine wpList_nil ?_
      refine c_split rfl (fun hc15 => ?_) (fun hc15 => ?_)
      · skip
        try simp only [Bool.and_eq_true, Bool.or_eq_true, Bool.and_eq_false_iff, Bool.or_eq_false_iff, Bool.not_eq_true', Bool.not_eq_false', decide_eq_true_eq, decide_eq_false_iff_not, beq_iff_eq, beq_eq_false_iff_ne, bne_iff_ne, bne_eq_false_iff_eq, ne_eq, Classical.not_not] at hc15
        refine wp_seq ?_
        refine wp_region_lit ?_
        refine s_val rfl rfl (v_move rfl rfl) ?_
        refine s_val rfl rfl (v_shr rfl rfl rfl (by decide)) ?_
        refine s_val rfl rfl (v_bor rfl rfl rfl) ?_
        refine s_val rfl rfl (v_conv rfl rfl Tryz.underlying3 Tryz.underlying5) ?_
        refine s_val rfl rfl (v_move rfl rfl) ?_
        refine s_val rfl rfl (v_band rfl rfl rfl) ?_
        refine s_val rfl rfl (v_bor rfl rfl rfl) ?_
        refine s_val rfl rfl (v_conv rfl rfl Tryz.underlying3 Tryz.underlying5) ?_
        refine s_bsl2 cx Tryz.underlying49 sz5 z5 rfl rfl rfl rfl rfl rfl rfl ?_; intro b26 w cx hb26 hw26
        refine s_val rfl rfl (v_b2s rfl Tryz.underlying49 Tryz.underlying5 Tryz.underlying9 (ns := [_, _]) (cx.row 0 rfl) rfl rfl) ?_
        refine s_val rfl rfl (v_assign rfl rfl) ?_
        refine s_val rfl rfl (v_assign rfl rfl) ?_
        refine wpList_nil ?_
        refine wp_ret ?_
        refine ret_tmp2 Tryz.results86 rfl rfl ?_
        have he : encN r = [UInt8.ofNat (192 + r / 64), UInt8.ofNat (128 + r % 64)] := by
          unfold encN
          rw [if_neg (by rw [hch]; exact Bool.noConfusion)]; rw [if_neg (by omega)]; rw [if_pos (by omega)]
        have h2 : (0 : Int) = (if chN r = true then 0 else 2) := by rw [if_pos hch]
        refine ⟨cx.ext, ?_⟩
        refine tup_s ?_ h2 rfl rfl
        rw [he]
        rw [show shr IntKind.i64 (r : Int) (Int.toNat 6) = ((r / 64 : Nat) : Int) from shrN 6 (by decide), and63N hr, or192 (by omega), or128 (by omega)]
        exact strOf_w2 (by omega) (by omega)
      · skip
        try simp only [Bool.and_eq_true, Bool.or_eq_true, Bool.and_eq_false_iff, Bool.or_eq_false_iff, Bool.not_eq_true', Bool.not_eq_false', decide_eq_true_eq, decide_eq_false_iff_not, beq_iff_eq, beq_eq_false_iff_ne, bne_iff_ne, bne_eq_false_iff_eq, ne_eq, Classical.not_not] at hc15
        refine wp_seq ?_
        refine wp_region_lit ?_
        refine s_val rfl rfl (v_move rfl rfl) ?_
        refine s_val rfl rfl (v_cmp rfl rfl rfl rfl) ?_
        refine s_val rfl rfl (v_assign rfl rfl) ?_
        refine wpList_nil ?_
        refine c_split rfl (fun hc28 => ?_) (fun hc28 => ?_)
        · skip
          try simp only [Bool.and_eq_true, Bool.or_eq_true, Bool.and_eq_false_iff, Bool.or_eq_false_iff, Bool.not_eq_true', Bool.not_eq_false', decide_eq_true_eq, decide_eq_false_iff_not, beq_iff_eq, beq_eq_false_iff_ne, bne_iff_ne, bne_eq_false_iff_eq, ne_eq, Classical.not_not] at hc28
          refine wp_seq ?_
          refine wp_region_lit ?_
          refine s_val rfl rfl (v_move rfl rfl) ?_
          refine s_val rfl rfl (v_shr rfl rfl rfl (by decide)) ?_
          refine s_val rfl rfl (v_bor rfl rfl rfl) ?_
          refine s_val rfl rfl (v_conv rfl rfl Tryz.underlying3 Tryz.underlying5) ?_
          refine s_val rfl rfl (v_move rfl rfl) ?_
          refine s_val rfl rfl (v_shr rfl rfl rfl (by decide)) ?_
          refine s_val rfl rfl (v_band rfl rfl rfl) ?_
          refine s_val rfl rfl (v_bor rfl rfl rfl) ?_
          refine s_val rfl rfl (v_conv rfl rfl Tryz.underlying3 Tryz.underlying5) ?_
          refine s_val rfl rfl (v_move rfl rfl) ?_
          refine s_val rfl rfl (v_band rfl rfl rfl) ?_
          refine s_val rfl rfl (v_bor rfl rfl rfl) ?_
          refine s_val rfl rfl (v_conv rfl rfl Tryz.underlying3 Tryz.underlying5) ?_
          refine s_bsl3 cx Tryz.underlying49 sz5 z5 rfl rfl rfl rfl rfl rfl rfl rfl rfl ?_; intro b44 w cx hb44 hw44
          refine s_val rfl rfl (v_b2s rfl Tryz.underlying49 Tryz.underlying5 Tryz.underlying9 (ns := [_, _, _]) (cx.row 0 rfl) rfl rfl) ?_
          refine s_val rfl rfl (v_assign rfl rfl) ?_
          refine s_val rfl rfl (v_assign rfl rfl) ?_
          refine wpList_nil ?_
          refine wp_ret ?_
          refine ret_tmp2 Tryz.results86 rfl rfl ?_
          have he : encN r = [UInt8.ofNat (224 + r / 4096), UInt8.ofNat (128 + r / 64 % 64), UInt8.ofNat (128 + r % 64)] := by
            unfold encN
            rw [if_neg (by rw [hch]; exact Bool.noConfusion)]; rw [if_neg (by omega)]; rw [if_neg (by omega)]; rw [if_pos (by omega)]
          have h2 : (0 : Int) = (if chN r = true then 0 else 2) := by rw [if_pos hch]
          refine ⟨cx.ext, ?_⟩
          refine tup_s ?_ h2 rfl rfl
          rw [he]
          rw [show shr IntKind.i64 (r : Int) (Int.toNat 12) = ((r / 4096 : Nat) : Int) from shrN 12 (by decide), show shr IntKind.i64 (r : Int) (Int.toNat 6) = ((r / 64 : Nat) : Int) from shrN 6 (by decide), and63N hr, and63N (by omega), or224 (by omega), or128 (by omega), or128 (by omega)]
          exact strOf_w3 (by omega) (by omega) (by omega)
        · skip
          try simp only [Bool.and_eq_true, Bool.or_eq_true, Bool.and_eq_false_iff, Bool.or_eq_false_iff, Bool.not_eq_true', Bool.not_eq_false', decide_eq_true_eq, decide_eq_false_iff_not, beq_iff_eq, beq_eq_false_iff_ne, bne_iff_ne, bne_eq_false_iff_eq, ne_eq, Classical.not_not] at hc28
          refine wp_skip ?_
          refine wp_seq ?_
          refine wp_region_lit ?_
          refine s_val rfl rfl (v_move rfl rfl) ?_
          refine s_val rfl rfl (v_shr rfl rfl rfl (by decide)) ?_
          refine s_val rfl rfl (v_bor rfl rfl rfl) ?_
          refine s_val rfl rfl (v_conv rfl rfl Tryz.underlying3 Tryz.underlying5) ?_
          refine s_val rfl rfl (v_move rfl rfl) ?_
          refine s_val rfl rfl (v_shr rfl rfl rfl (by decide)) ?_
          refine s_val rfl rfl (v_band rfl rfl rfl) ?_
          refine s_val rfl rfl (v_bor rfl rfl rfl) ?_
          refine s_val rfl rfl (v_conv rfl rfl Tryz.underlying3 Tryz.underlying5) ?_
          refine s_val rfl rfl (v_move rfl rfl) ?_
          refine s_val rfl rfl (v_shr rfl rfl rfl (by decide)) ?_
          refine s_val rfl rfl (v_band rfl rfl rfl) ?_
          refine s_val rfl rfl (v_bor rfl rfl rfl) ?_
          refine s_val rfl rfl (v_conv rfl rfl Tryz.underlying3 Tryz.underlying5) ?_
          refine s_val rfl rfl (v_move rfl rfl) ?_
          refine s_val rfl rfl (v_band rfl rfl rfl) ?_
          refine s_val rfl rfl (v_bor rfl rfl rfl) ?_
          refine s_val rfl rfl (v_conv rfl rfl Tryz.underlying3 Tryz.underlying5) ?_
          refine s_bsl4 cx Tryz.underlying49 sz5 z5 rfl rfl rfl rfl rfl rfl rfl rfl rfl rfl rfl ?_; intro b64 w cx hb64 hw64
          refine s_val rfl rfl (v_b2s rfl Tryz.underlying49 Tryz.underlying5 Tryz.underlying9 (ns := [_, _, _, _]) (cx.row 0 rfl) rfl rfl) ?_
          refine s_val rfl rfl (v_assign rfl rfl) ?_
          refine s_val rfl rfl (v_assign rfl rfl) ?_
          refine wpList_nil ?_
          refine wp_ret ?_
          refine ret_tmp2 Tryz.results86 rfl rfl ?_
          have hle := ((chN_iff r).1 hch).1
          have he : encN r = [UInt8.ofNat (240 + r / 262144), UInt8.ofNat (128 + r / 4096 % 64), UInt8.ofNat (128 + r / 64 % 64), UInt8.ofNat (128 + r % 64)] := by
            unfold encN
            rw [if_neg (by rw [hch]; exact Bool.noConfusion)]; rw [if_neg (by omega)]; rw [if_neg (by omega)]; rw [if_neg (by omega)]
          have h2 : (0 : Int) = (if chN r = true then 0 else 2) := by rw [if_pos hch]
          refine ⟨cx.ext, ?_⟩
          refine tup_s ?_ h2 rfl rfl
          rw [he]
          rw [show shr IntKind.i64 (r : Int) (Int.toNat 18) = ((r / 262144 : Nat) : Int) from shrN 18 (by decide), show shr IntKind.i64 (r : Int) (Int.toNat 12) = ((r / 4096 : Nat) : Int) from shrN 12 (by decide), show shr IntKind.i64 (r : Int) (Int.toNat 6) = ((r / 64 : Nat) : Int) from shrN 6 (by decide), and63N hr, and63N (by omega), and63N (by omega), or240 (by omega), or128 (by omega), or128 (by omega), or128 (by omega)]
          exact strOf_w4 (by omega) (by omega) (by omega) (by omega)
set_option maxRecDepth 10000 in
theorem c47 (s : ByteArray) (a : Nat) (w0 : World) (hs : s.size ≤ 1073741824) (ha : a < s.size) : Fc Tryz.prog 47 [.string s, .int .i64 a] w0 (fun v _ => ∃ r : Int, v = .tuple #[.int .i64 r, .int .i64 (szAt s a)]) := by
  refine ret_enter Tryz.func47 rfl Tryz.ntmps47 rfl ?_
  have cx := Ctx.start w0
  refine wp_seq ?_
  refine wp_region_lit ?_
  refine s_val rfl rfl (v_assign rfl rfl) ?_
  refine s_val rfl rfl (v_assign rfl rfl) ?_
  refine wpList_nil ?_
  refine wp_seq ?_
  refine wp_seq ?_
  refine wp_region_lit ?_
  refine s_val rfl rfl (v_move rfl rfl) ?_
  refine s_val rfl rfl (v_cmp rfl rfl rfl rfl) ?_
  refine s_val rfl rfl (v_move rfl rfl) ?_
  refine s_gval rfl rfl rfl (by first | exact w_ff rfl | exact w_gf rfl) (fun hc => v_move rfl (by first | exact gve hc rfl | exact gve (and_l hc) rfl | exact gve (and_l (and_l hc)) rfl | rfl)) ?_
  refine s_gval rfl rfl rfl (by first | exact w_ff rfl | exact w_gf rfl) (fun hc => v_move rfl (by first | exact gve hc rfl | exact gve (and_l hc) rfl | exact gve (and_l (and_l hc)) rfl | rfl)) ?_
  refine s_gval rfl rfl rfl (by first | exact w_ff rfl | exact w_gf rfl) (fun hc => v_lenString rfl (by first | exact gve hc rfl | exact gve (and_l hc) rfl | exact gve (and_l (and_l hc)) rfl | rfl) Tryz.underlying9) ?_
  refine s_gval rfl rfl rfl (by first | exact w_ff rfl | exact w_gf rfl) (fun hc => v_cmp rfl (by first | exact gve hc rfl | exact gve (and_l hc) rfl | exact gve (and_l (and_l hc)) rfl | rfl) (by first | exact gve hc rfl | exact gve (and_l hc) rfl | exact gve (and_l (and_l hc)) rfl | rfl) rfl) ?_
  refine s_val rfl rfl (v_or rfl rfl rfl rfl) ?_
  refine wpList_nil ?_
  refine c_split rfl (fun hc19 => ?_) (fun hc19 => ?_)
  · skip
    try simp only [Bool.and_eq_true, Bool.or_eq_true, Bool.and_eq_false_iff, Bool.or_eq_false_iff, Bool.not_eq_true', Bool.not_eq_false', decide_eq_true_eq, decide_eq_false_iff_not, beq_iff_eq, beq_eq_false_iff_ne, bne_iff_ne, bne_eq_false_iff_eq, ne_eq, Classical.not_not] at hc19
    refine wp_seq ?_
    refine wp_region_lit ?_
    refine s_val rfl rfl (v_assign rfl rfl) ?_
    refine s_val rfl rfl (v_assign rfl rfl) ?_
    refine wpList_nil ?_
    refine wp_ret ?_
    refine ret_tmp2 Tryz.results47 rfl rfl ?_
    exfalso
    omega
  · skip
    try simp only [Bool.and_eq_true, Bool.or_eq_true, Bool.and_eq_false_iff, Bool.or_eq_false_iff, Bool.not_eq_true', Bool.not_eq_false', decide_eq_true_eq, decide_eq_false_iff_not, beq_iff_eq, beq_eq_false_iff_ne, bne_iff_ne, bne_eq_false_iff_eq, ne_eq, Classical.not_not] at hc19
    refine wp_skip ?_
    refine wp_seq ?_
    refine wp_region_lit ?_
    refine s_val rfl rfl (v_move rfl rfl) ?_
    refine s_val rfl rfl (v_move rfl rfl) ?_
    refine s_val rfl rfl (v_idxStr rfl rfl rfl Tryz.underlying9 (by omega) (by omega)) ?_
    refine s_val rfl rfl (v_ofByte rfl rfl Tryz.underlying5 Tryz.underlying3 (by first | exact byteAt_lo _ _ | omega) (by first | exact byteAt_hi _ _ | omega)) ?_
    refine s_val rfl rfl (v_assign rfl rfl) ?_
    refine wpList_nil ?_
    refine wp_seq ?_
    refine wp_region_lit ?_
    refine s_val rfl rfl (v_move rfl rfl) ?_
    refine s_val rfl rfl (v_assign rfl rfl) ?_
    refine s_val rfl rfl (v_assign rfl rfl) ?_
    refine wpList_nil ?_
    refine w_cut (fun f w1 => ∃ n0 r0 : Nat, hdR (bA s a) = (n0, r0) ∧ f 0 = .string s ∧ f 1 = .int .i64 a ∧ f 7 = .int .i64 n0 ∧ f 8 = .int .i64 r0 ∧ Ctx w0 w1 []) ?_ ?_
    · skip
      refine wp_block ?_
      refine wp_seq ?_
      refine wp_region_lit ?_
      refine s_val rfl rfl (v_move rfl rfl) ?_
      refine s_val rfl rfl (v_cmp rfl rfl rfl rfl) ?_
      refine s_val rfl rfl (v_assign rfl rfl) ?_
      refine wpList_nil ?_
      refine c_split rfl (fun hc25 => ?_) (fun hc25 => ?_)
      · skip
        try simp only [Bool.and_eq_true, Bool.or_eq_true, Bool.and_eq_false_iff, Bool.or_eq_false_iff, Bool.not_eq_true', Bool.not_eq_false', decide_eq_true_eq, decide_eq_false_iff_not, beq_iff_eq, beq_eq_false_iff_ne, bne_iff_ne, bne_eq_false_iff_eq, ne_eq, Classical.not_not] at hc25
        refine wp_region_lit ?_
        refine s_val rfl rfl (v_move rfl rfl) ?_
        refine s_val rfl rfl (v_band rfl rfl rfl) ?_
        refine s_val rfl rfl (v_assign rfl rfl) ?_
        refine s_val rfl rfl (v_assign rfl rfl) ?_
        refine wpList_nil ?_
        first
        | exact ⟨_, rfl, 4, bA s a % 8, by unfold hdR; rw [if_pos (by rw [byteAt_bA] at *; omega)], rfl, rfl, rfl, congrArg (Value.int .i64) (by rw [byteAt_bA]; exact Go.Dk.and7 (bA_lt _ _)), cx⟩
        | exact ⟨_, rfl, 3, bA s a % 16, by unfold hdR; rw [if_neg (by rw [byteAt_bA] at *; omega), if_pos (by rw [byteAt_bA] at *; omega)], rfl, rfl, rfl, congrArg (Value.int .i64) (by rw [byteAt_bA]; exact Go.Dk.and15 (bA_lt _ _)), cx⟩
        | exact ⟨_, rfl, 2, bA s a % 32, by unfold hdR; rw [if_neg (by rw [byteAt_bA] at *; omega), if_neg (by rw [byteAt_bA] at *; omega), if_pos (by rw [byteAt_bA] at *; omega)], rfl, rfl, rfl, congrArg (Value.int .i64) (by rw [byteAt_bA]; exact Go.Dk.and31 (bA_lt _ _)), cx⟩
        | exact ⟨_, rfl, 1, bA s a, by unfold hdR; rw [if_neg (by rw [byteAt_bA] at *; omega), if_neg (by rw [byteAt_bA] at *; omega), if_neg (by rw [byteAt_bA] at *; omega)], rfl, rfl, rfl, rfl, cx⟩
      · skip
        try simp only [Bool.and_eq_true, Bool.or_eq_true, Bool.and_eq_false_iff, Bool.or_eq_false_iff, Bool.not_eq_true', Bool.not_eq_false', decide_eq_true_eq, decide_eq_false_iff_not, beq_iff_eq, beq_eq_false_iff_ne, bne_iff_ne, bne_eq_false_iff_eq, ne_eq, Classical.not_not] at hc25
        refine wp_seq ?_
        refine wp_region_lit ?_
        refine s_val rfl rfl (v_move rfl rfl) ?_
        refine s_val rfl rfl (v_cmp rfl rfl rfl rfl) ?_
        refine s_val rfl rfl (v_assign rfl rfl) ?_
        refine wpList_nil ?_
        refine c_split rfl (fun hc30 => ?_) (fun hc30 => ?_)
        · skip
          try simp only [Bool.and_eq_true, Bool.or_eq_true, Bool.and_eq_false_iff, Bool.or_eq_false_iff, Bool.not_eq_true', Bool.not_eq_false', decide_eq_true_eq, decide_eq_false_iff_not, beq_iff_eq, beq_eq_false_iff_ne, bne_iff_ne, bne_eq_false_iff_eq, ne_eq, Classical.not_not] at hc30
          refine wp_region_lit ?_
          refine s_val rfl rfl (v_move rfl rfl) ?_
          refine s_val rfl rfl (v_band rfl rfl rfl) ?_
          refine s_val rfl rfl (v_assign rfl rfl) ?_
          refine s_val rfl rfl (v_assign rfl rfl) ?_
          refine wpList_nil ?_
          first
          | exact ⟨_, rfl, 4, bA s a % 8, by unfold hdR; rw [if_pos (by rw [byteAt_bA] at *; omega)], rfl, rfl, rfl, congrArg (Value.int .i64) (by rw [byteAt_bA]; exact Go.Dk.and7 (bA_lt _ _)), cx⟩
          | exact ⟨_, rfl, 3, bA s a % 16, by unfold hdR; rw [if_neg (by rw [byteAt_bA] at *; omega), if_pos (by rw [byteAt_bA] at *; omega)], rfl, rfl, rfl, congrArg (Value.int .i64) (by rw [byteAt_bA]; exact Go.Dk.and15 (bA_lt _ _)), cx⟩
          | exact ⟨_, rfl, 2, bA s a % 32, by unfold hdR; rw [if_neg (by rw [byteAt_bA] at *; omega), if_neg (by rw [byteAt_bA] at *; omega), if_pos (by rw [byteAt_bA] at *; omega)], rfl, rfl, rfl, congrArg (Value.int .i64) (by rw [byteAt_bA]; exact Go.Dk.and31 (bA_lt _ _)), cx⟩
          | exact ⟨_, rfl, 1, bA s a, by unfold hdR; rw [if_neg (by rw [byteAt_bA] at *; omega), if_neg (by rw [byteAt_bA] at *; omega), if_neg (by rw [byteAt_bA] at *; omega)], rfl, rfl, rfl, rfl, cx⟩
        · skip
          try simp only [Bool.and_eq_true, Bool.or_eq_true, Bool.and_eq_false_iff, Bool.or_eq_false_iff, Bool.not_eq_true', Bool.not_eq_false', decide_eq_true_eq, decide_eq_false_iff_not, beq_iff_eq, beq_eq_false_iff_ne, bne_iff_ne, bne_eq_false_iff_eq, ne_eq, Classical.not_not] at hc30
          refine wp_seq ?_
          refine wp_region_lit ?_
          refine s_val rfl rfl (v_move rfl rfl) ?_
          refine s_val rfl rfl (v_cmp rfl rfl rfl rfl) ?_
          refine s_val rfl rfl (v_assign rfl rfl) ?_
          refine wpList_nil ?_
          refine c_split rfl (fun hc35 => ?_) (fun hc35 => ?_)
          · skip
            try simp only [Bool.and_eq_true, Bool.or_eq_true, Bool.and_eq_false_iff, Bool.or_eq_false_iff, Bool.not_eq_true', Bool.not_eq_false', decide_eq_true_eq, decide_eq_false_iff_not, beq_iff_eq, beq_eq_false_iff_ne, bne_iff_ne, bne_eq_false_iff_eq, ne_eq, Classical.not_not] at hc35
            refine wp_region_lit ?_
            refine s_val rfl rfl (v_move rfl rfl) ?_
            refine s_val rfl rfl (v_band rfl rfl rfl) ?_
            refine s_val rfl rfl (v_assign rfl rfl) ?_
            refine s_val rfl rfl (v_assign rfl rfl) ?_
            refine wpList_nil ?_
            first
            | exact ⟨_, rfl, 4, bA s a % 8, by unfold hdR; rw [if_pos (by rw [byteAt_bA] at *; omega)], rfl, rfl, rfl, congrArg (Value.int .i64) (by rw [byteAt_bA]; exact Go.Dk.and7 (bA_lt _ _)), cx⟩
            | exact ⟨_, rfl, 3, bA s a % 16, by unfold hdR; rw [if_neg (by rw [byteAt_bA] at *; omega), if_pos (by rw [byteAt_bA] at *; omega)], rfl, rfl, rfl, congrArg (Value.int .i64) (by rw [byteAt_bA]; exact Go.Dk.and15 (bA_lt _ _)), cx⟩
            | exact ⟨_, rfl, 2, bA s a % 32, by unfold hdR; rw [if_neg (by rw [byteAt_bA] at *; omega), if_neg (by rw [byteAt_bA] at *; omega), if_pos (by rw [byteAt_bA] at *; omega)], rfl, rfl, rfl, congrArg (Value.int .i64) (by rw [byteAt_bA]; exact Go.Dk.and31 (bA_lt _ _)), cx⟩
            | exact ⟨_, rfl, 1, bA s a, by unfold hdR; rw [if_neg (by rw [byteAt_bA] at *; omega), if_neg (by rw [byteAt_bA] at *; omega), if_neg (by rw [byteAt_bA] at *; omega)], rfl, rfl, rfl, rfl, cx⟩
          · skip
            try simp only [Bool.and_eq_true, Bool.or_eq_true, Bool.and_eq_false_iff, Bool.or_eq_false_iff, Bool.not_eq_true', Bool.not_eq_false', decide_eq_true_eq, decide_eq_false_iff_not, beq_iff_eq, beq_eq_false_iff_ne, bne_iff_ne, bne_eq_false_iff_eq, ne_eq, Classical.not_not] at hc35
            refine wp_skip ?_
            first
            | exact ⟨_, rfl, 4, bA s a % 8, by unfold hdR; rw [if_pos (by rw [byteAt_bA] at *; omega)], rfl, rfl, rfl, congrArg (Value.int .i64) (by rw [byteAt_bA]; exact Go.Dk.and7 (bA_lt _ _)), cx⟩
            | exact ⟨_, rfl, 3, bA s a % 16, by unfold hdR; rw [if_neg (by rw [byteAt_bA] at *; omega), if_pos (by rw [byteAt_bA] at *; omega)], rfl, rfl, rfl, congrArg (Value.int .i64) (by rw [byteAt_bA]; exact Go.Dk.and15 (bA_lt _ _)), cx⟩
            | exact ⟨_, rfl, 2, bA s a % 32, by unfold hdR; rw [if_neg (by rw [byteAt_bA] at *; omega), if_neg (by rw [byteAt_bA] at *; omega), if_pos (by rw [byteAt_bA] at *; omega)], rfl, rfl, rfl, congrArg (Value.int .i64) (by rw [byteAt_bA]; exact Go.Dk.and31 (bA_lt _ _)), cx⟩
            | exact ⟨_, rfl, 1, bA s a, by unfold hdR; rw [if_neg (by rw [byteAt_bA] at *; omega), if_neg (by rw [byteAt_bA] at *; omega), if_neg (by rw [byteAt_bA] at *; omega)], rfl, rfl, rfl, rfl, cx⟩
    intro f w hJ
    obtain ⟨n0, r0, hhd, hs0, hs1, hs7, hs8, cx⟩ := hJ
    have hn0 := hdR_lo (bA s a)
    have hb9 := bA_lt s a
    rw [hhd] at hn0
    simp only at hn0
    refine wp_seq ?_
    refine wp_seq ?_
    refine wp_region_lit ?_
    refine s_val rfl rfl (v_move rfl hs0) ?_
    refine s_val rfl rfl (v_lenString rfl rfl Tryz.underlying9) ?_
    refine s_val rfl rfl (v_move rfl hs1) ?_
    refine s_val rfl rfl (v_sub rfl rfl rfl (by omega) (by omega)) ?_
    refine s_val rfl rfl (v_move rfl hs7) ?_
    refine s_val rfl rfl (v_cmp rfl rfl rfl rfl) ?_
    refine wpList_nil ?_
    refine c_split rfl (fun hc45 => ?_) (fun hc45 => ?_)
    · skip
      try simp only [Bool.and_eq_true, Bool.or_eq_true, Bool.and_eq_false_iff, Bool.or_eq_false_iff, Bool.not_eq_true', Bool.not_eq_false', decide_eq_true_eq, decide_eq_false_iff_not, beq_iff_eq, beq_eq_false_iff_ne, bne_iff_ne, bne_eq_false_iff_eq, ne_eq, Classical.not_not] at hc45
      refine wp_seq ?_
      refine wp_region_lit ?_
      refine s_val rfl rfl (v_assign rfl rfl) ?_
      refine s_val rfl rfl (v_assign rfl rfl) ?_
      refine wpList_nil ?_
      refine wp_ret ?_
      refine ret_tmp2 Tryz.results47 rfl rfl ?_
      exact ⟨cx.ext, 0, tup_sz (m := 0) (szR_short ha (by rw [hhd]; simp only; omega)) rfl rfl⟩
    · skip
      try simp only [Bool.and_eq_true, Bool.or_eq_true, Bool.and_eq_false_iff, Bool.or_eq_false_iff, Bool.not_eq_true', Bool.not_eq_false', decide_eq_true_eq, decide_eq_false_iff_not, beq_iff_eq, beq_eq_false_iff_ne, bne_iff_ne, bne_eq_false_iff_eq, ne_eq, Classical.not_not] at hc45
      refine wp_skip ?_
      refine wp_seq ?_
      refine wp_seq ?_
      refine wp_region_lit ?_
      refine s_val rfl rfl (v_assign rfl rfl) ?_
      refine wpList_nil ?_
      refine wp_block ?_
      refine w_loop (fun k f w1 => ∃ i : Nat, 1 ≤ i ∧ k + i = n0 ∧ f 0 = .string s ∧ f 1 = .int .i64 a ∧ f 7 = .int .i64 n0 ∧ f 8 = .int .i64 (accN s a r0 (i - 1)) ∧ f 9 = .int .i64 i ∧ Ctx w0 w1 []) (n0 - 1) ?_ ?_
      · skip
        exact ⟨1, by omega, by omega, hs0, hs1, hs7, hs8, rfl, cx⟩
      intro gk14 f w hJ
      obtain ⟨i, hi, hk, hs0, hs1, hs7, hs8, hs9, cx⟩ := hJ
      have hacc := accN_lt s a r0 (by omega) (i - 1) (by omega)
      have hacc2 : 256 * 64 ^ (i - 1) ≤ 67108864 := Nat.le_trans (Nat.mul_le_mul_left 256 (Nat.pow_le_pow_right (by decide) (show i - 1 ≤ 3 by omega))) (by decide)
      refine wp_seq ?_
      refine wp_seq ?_
      refine wp_region_lit ?_
      refine s_val rfl rfl (v_move rfl hs9) ?_
      refine s_val rfl rfl (v_move rfl hs7) ?_
      refine s_val rfl rfl (v_cmp rfl rfl rfl rfl) ?_
      refine wpList_nil ?_
      refine c_split rfl (fun hc48 => ?_) (fun hc48 => ?_)
      · skip
        try simp only [Bool.and_eq_true, Bool.or_eq_true, Bool.and_eq_false_iff, Bool.or_eq_false_iff, Bool.not_eq_true', Bool.not_eq_false', decide_eq_true_eq, decide_eq_false_iff_not, beq_iff_eq, beq_eq_false_iff_ne, bne_iff_ne, bne_eq_false_iff_eq, ne_eq, Classical.not_not] at hc48
        refine wp_skip ?_
        refine wp_seq ?_
        refine wp_block ?_
        refine wp_region_lit ?_
        refine s_val rfl rfl (v_move rfl hs8) ?_
        refine s_val rfl rfl (v_shl rfl rfl rfl (by decide)) ?_
        refine s_val rfl rfl (v_move rfl hs0) ?_
        refine s_val rfl rfl (v_move rfl hs1) ?_
        refine s_val rfl rfl (v_move rfl hs9) ?_
        refine s_val rfl rfl (v_add rfl rfl rfl (by omega) (by omega)) ?_
        refine s_val rfl rfl (v_idxStr rfl rfl rfl Tryz.underlying9 (by omega) (by omega)) ?_
        refine s_val rfl rfl (v_ofByte rfl rfl Tryz.underlying5 Tryz.underlying3 (by first | exact byteAt_lo _ _ | omega) (by first | exact byteAt_hi _ _ | omega)) ?_
        refine s_val rfl rfl (v_band rfl rfl rfl) ?_
        refine s_val rfl rfl (v_bor rfl rfl rfl) ?_
        refine s_val rfl rfl (v_assign rfl rfl) ?_
        refine wpList_nil ?_
        refine wp_region_lit ?_
        refine s_val rfl rfl (v_move rfl hs9) ?_
        refine s_val rfl rfl (v_add rfl rfl rfl (by omega) (by omega)) ?_
        refine s_val rfl rfl (v_assign rfl rfl) ?_
        refine wpList_nil ?_
        refine ⟨gk14 - 1, _, by omega, rfl, i + 1, by omega, by omega, hs0, hs1, hs7, congrArg (Value.int .i64) ?_, rfl, cx⟩
        rw [show ((a : Int) + (i : Int)) = ((a + i : Nat) : Int) by omega, byteAt_bA, and63 (bA_lt _ _)]
        refine (congrArg (fun z => bitOp .or .i64 z _) (shl6 (by omega))).trans ?_
        rw [or_add (by omega) (by omega)]
        obtain ⟨i, rfl⟩ : ∃ j, i = j + 1 := ⟨i - 1, by omega⟩
        rfl
      · skip
        try simp only [Bool.and_eq_true, Bool.or_eq_true, Bool.and_eq_false_iff, Bool.or_eq_false_iff, Bool.not_eq_true', Bool.not_eq_false', decide_eq_true_eq, decide_eq_false_iff_not, beq_iff_eq, beq_eq_false_iff_ne, bne_iff_ne, bne_eq_false_iff_eq, ne_eq, Classical.not_not] at hc48
        refine wp_exit ?_
        refine wp_seq ?_
        refine wp_region_lit ?_
        refine s_val rfl rfl (v_move rfl hs8) ?_
        refine s_fn cx (c86 _ _ (by omega)) Tryz.func86 rfl rfl rfl rfl rfl rfl ?_; intro q63 w cx hw63 hp63
        subst hp63
        refine s_val rfl rfl (v_move rfl rfl) ?_
        refine s_val rfl rfl (v_extract rfl rfl rfl) ?_
        refine s_val rfl rfl (v_extract rfl rfl rfl) ?_
        refine s_val rfl rfl (v_assign rfl rfl) ?_
        refine s_val rfl rfl (v_assign rfl rfl) ?_
        refine wpList_nil ?_
        refine wp_seq ?_
        refine wp_seq ?_
        refine wp_region_lit ?_
        refine s_val rfl rfl (v_move rfl rfl) ?_
        refine s_val rfl rfl (v_cmp rfl rfl rfl rfl) ?_
        refine s_val rfl rfl (v_move rfl rfl) ?_
        refine s_gval rfl rfl rfl (by first | exact w_ff rfl | exact w_gf rfl) (fun hc => v_move rfl (by first | exact gve hc rfl | exact gve (and_l hc) rfl | exact gve (and_l (and_l hc)) rfl | rfl)) ?_
        refine s_gval rfl rfl rfl (by first | exact w_ff rfl | exact w_gf rfl) (fun hc => v_move rfl hs0) ?_
        refine s_gval rfl rfl rfl (by first | exact w_ff rfl | exact w_gf rfl) (fun hc => v_move rfl hs1) ?_
        refine s_gval rfl rfl rfl (by first | exact w_ff rfl | exact w_gf rfl) (fun hc => v_move rfl hs1) ?_
        refine s_gval rfl rfl rfl (by first | exact w_ff rfl | exact w_gf rfl) (fun hc => v_move rfl hs7) ?_
        refine s_gval rfl rfl rfl (by first | exact w_ff rfl | exact w_gf rfl) (fun hc => v_add rfl (by first | exact gve hc rfl | exact gve (and_l hc) rfl | exact gve (and_l (and_l hc)) rfl | rfl) (by first | exact gve hc rfl | exact gve (and_l hc) rfl | exact gve (and_l (and_l hc)) rfl | rfl) (by first | omega | (simp only [Bool.and_eq_true, Bool.or_eq_true, Bool.and_eq_false_iff, Bool.or_eq_false_iff, Bool.not_eq_true', Bool.not_eq_false', decide_eq_true_eq, decide_eq_false_iff_not, beq_iff_eq, beq_eq_false_iff_ne, bne_iff_ne, bne_eq_false_iff_eq, ne_eq, Classical.not_not] at hc; omega)) (by first | omega | (simp only [Bool.and_eq_true, Bool.or_eq_true, Bool.and_eq_false_iff, Bool.or_eq_false_iff, Bool.not_eq_true', Bool.not_eq_false', decide_eq_true_eq, decide_eq_false_iff_not, beq_iff_eq, beq_eq_false_iff_ne, bne_iff_ne, bne_eq_false_iff_eq, ne_eq, Classical.not_not] at hc; omega))) ?_
        refine s_gval rfl rfl rfl (by first | exact w_ff rfl | exact w_gf rfl) (fun hc => v_subStr rfl (by first | exact gve hc rfl | exact gve (and_l hc) rfl | exact gve (and_l (and_l hc)) rfl | rfl) (by first | exact gve hc rfl | exact gve (and_l hc) rfl | exact gve (and_l (and_l hc)) rfl | rfl) (by first | exact gve hc rfl | exact gve (and_l hc) rfl | exact gve (and_l (and_l hc)) rfl | rfl) Tryz.underlying9 (by first | omega | (simp only [Bool.and_eq_true, Bool.or_eq_true, Bool.and_eq_false_iff, Bool.or_eq_false_iff, Bool.not_eq_true', Bool.not_eq_false', decide_eq_true_eq, decide_eq_false_iff_not, beq_iff_eq, beq_eq_false_iff_ne, bne_iff_ne, bne_eq_false_iff_eq, ne_eq, Classical.not_not] at hc; omega)) (by first | omega | (simp only [Bool.and_eq_true, Bool.or_eq_true, Bool.and_eq_false_iff, Bool.or_eq_false_iff, Bool.not_eq_true', Bool.not_eq_false', decide_eq_true_eq, decide_eq_false_iff_not, beq_iff_eq, beq_eq_false_iff_ne, bne_iff_ne, bne_eq_false_iff_eq, ne_eq, Classical.not_not] at hc; omega)) (by first | omega | (simp only [Bool.and_eq_true, Bool.or_eq_true, Bool.and_eq_false_iff, Bool.or_eq_false_iff, Bool.not_eq_true', Bool.not_eq_false', decide_eq_true_eq, decide_eq_false_iff_not, beq_iff_eq, beq_eq_false_iff_ne, bne_iff_ne, bne_eq_false_iff_eq, ne_eq, Classical.not_not] at hc; omega))) ?_
        refine s_gval rfl rfl rfl (by first | exact w_ff rfl | exact w_gf rfl) (fun hc => v_strNe rfl (by first | exact gve hc rfl | exact gve (and_l hc) rfl | exact gve (and_l (and_l hc)) rfl | rfl) (by first | exact gve hc rfl | exact gve (and_l hc) rfl | exact gve (and_l (and_l hc)) rfl | rfl)) ?_
        refine s_val rfl rfl (v_or rfl rfl rfl rfl) ?_
        refine wpList_nil ?_
        refine c_split rfl (fun hc77 => ?_) (fun hc77 => ?_)
        · skip
          try simp only [Bool.and_eq_true, Bool.or_eq_true, Bool.and_eq_false_iff, Bool.or_eq_false_iff, Bool.not_eq_true', Bool.not_eq_false', decide_eq_true_eq, decide_eq_false_iff_not, beq_iff_eq, beq_eq_false_iff_ne, bne_iff_ne, bne_eq_false_iff_eq, ne_eq, Classical.not_not] at hc77
          refine wp_seq ?_
          refine wp_region_lit ?_
          refine s_val rfl rfl (v_assign rfl rfl) ?_
          refine s_val rfl rfl (v_assign rfl rfl) ?_
          refine wpList_nil ?_
          refine wp_ret ?_
          refine ret_tmp2 Tryz.results47 rfl rfl ?_
          have hi' : i = n0 := by omega
          subst hi'
          have hz : szAt s a = 0 := by
            rw [szR_end ha (by rw [hhd]; simp only; omega), hhd]
            simp only
            rw [if_neg]
            rintro ⟨e1, e2⟩
            rcases hc77 with h | h
            · exact h (by rw [e1]; rfl)
            · refine h ?_
              rw [e2]
              exact congr_cut (by omega) (by omega)
          exact ⟨cx.ext, 0, tup_sz (m := 0) hz rfl rfl⟩
        · skip
          try simp only [Bool.and_eq_true, Bool.or_eq_true, Bool.and_eq_false_iff, Bool.or_eq_false_iff, Bool.not_eq_true', Bool.not_eq_false', decide_eq_true_eq, decide_eq_false_iff_not, beq_iff_eq, beq_eq_false_iff_ne, bne_iff_ne, bne_eq_false_iff_eq, ne_eq, Classical.not_not] at hc77
          refine wp_skip ?_
          refine wp_seq ?_
          refine wp_region_lit ?_
          refine s_val rfl rfl (v_move rfl hs8) ?_
          refine s_val rfl rfl (v_move rfl hs7) ?_
          refine s_val rfl rfl (v_assign rfl rfl) ?_
          refine s_val rfl rfl (v_assign rfl rfl) ?_
          refine wpList_nil ?_
          refine wp_ret ?_
          refine ret_tmp2 Tryz.results47 rfl rfl ?_
          have hi' : i = n0 := by omega
          subst hi'
          have hz : szAt s a = i := by
            rw [szR_end ha (by rw [hhd]; simp only; omega), hhd]
            simp only
            rw [if_pos]
            obtain ⟨h1, h2⟩ := hc77
            have e : chN (accN s a r0 (i - 1)) = true := by
              by_cases e : chN (accN s a r0 (i - 1)) = true
              · exact e
              · rw [if_neg e] at h1; exact absurd h1 (by decide)
            refine ⟨e, ?_⟩
            have h3 := congrArg (fun b : ByteArray => b.data.toList) h2
            exact h3.trans (cut_list' (by omega) (by omega))
          exact ⟨cx.ext, _, tup_sz (m := i) hz rfl rfl⟩
set_option maxRecDepth 10000 in
theorem c24 (s : ByteArray) (w0 : World) (hs : s.size ≤ 1073741824) : Fc Tryz.prog 24 [.string s] w0 (fun v _ => ∃ x, v = .tuple #[x, .bool (validD s.data.toList)]) := by
  refine ret_enter Tryz.func24 rfl Tryz.ntmps24 rfl ?_
  have cx := Ctx.start w0
  refine wp_seq ?_
  refine wp_region_lit ?_
  refine s_val rfl rfl (v_assign rfl rfl) ?_
  refine s_val rfl rfl (v_assign rfl rfl) ?_
  refine wpList_nil ?_
  refine wp_seq ?_
  refine wp_region_lit ?_
  refine s_bsl1 cx Tryz.underlying83 sz3 z3 rfl rfl rfl rfl rfl rfl rfl rfl ?_; intro b8 w cx hb8 hw8
  replace cx := Cxr.toRow (size := 1) (k := 1) cx rfl (by decide)
  refine s_val rfl rfl (v_assign rfl rfl) ?_
  refine wpList_nil ?_
  refine wp_seq ?_
  refine wp_region_lit ?_
  refine s_val rfl rfl (v_assign rfl rfl) ?_
  refine wpList_nil ?_
  refine wp_seq ?_
  refine wp_block ?_
  refine w_loop (fun k f w1 => ∃ (i m : Nat) (v : Value) (xs : List Value), k + i = s.size ∧ m ≤ i + 1 ∧ validD s.data.toList = validD (s.data.toList.drop i) ∧ f 0 = .string s ∧ f 5 = .int .i64 i ∧ f 4 = v ∧ Cxr w0 w1 [] [⟨3, 1, v, m, xs⟩]) (s.size) ?_ ?_
  · skip
    exact ⟨0, 1, _, _, by omega, by omega, rfl, rfl, rfl, rfl, cx⟩
  intro gk3 f w hJ
  obtain ⟨i, m, v, xs, hk, hm, hv0, hs0, hs5, hs4, cx⟩ := hJ
  refine wp_seq ?_
  refine wp_seq ?_
  refine wp_region_lit ?_
  refine s_val rfl rfl (v_move rfl hs5) ?_
  refine s_val rfl rfl (v_move rfl hs0) ?_
  refine s_val rfl rfl (v_lenString rfl rfl Tryz.underlying9) ?_
  refine s_val rfl rfl (v_cmp rfl rfl rfl rfl) ?_
  refine wpList_nil ?_
  refine c_split rfl (fun hc12 => ?_) (fun hc12 => ?_)
  · skip
    try simp only [Bool.and_eq_true, Bool.or_eq_true, Bool.and_eq_false_iff, Bool.or_eq_false_iff, Bool.not_eq_true', Bool.not_eq_false', decide_eq_true_eq, decide_eq_false_iff_not, beq_iff_eq, beq_eq_false_iff_ne, bne_iff_ne, bne_eq_false_iff_eq, ne_eq, Classical.not_not] at hc12
    have hsz := szAt_le s i (by omega)
    refine wp_skip ?_
    refine wp_block ?_
    refine wp_seq ?_
    refine wp_region_lit ?_
    refine s_val rfl rfl (v_move rfl hs0) ?_
    refine s_val rfl rfl (v_move rfl hs5) ?_
    refine s_fn cx (c47 _ _ _ (by omega) (by omega)) Tryz.func47 rfl rfl rfl rfl rfl rfl ?_; intro q16 w cx hw16 hp16
    obtain ⟨er16, rfl⟩ := hp16
    refine s_val rfl rfl (v_move rfl rfl) ?_
    refine s_val rfl rfl (v_extract rfl rfl rfl) ?_
    refine s_val rfl rfl (v_extract rfl rfl rfl) ?_
    refine s_val rfl rfl (v_assign rfl rfl) ?_
    refine s_val rfl rfl (v_assign rfl rfl) ?_
    refine wpList_nil ?_
    refine wp_seq ?_
    refine wp_seq ?_
    refine wp_region_lit ?_
    refine s_val rfl rfl (v_move rfl rfl) ?_
    refine s_val rfl rfl (v_cmp rfl rfl rfl rfl) ?_
    refine wpList_nil ?_
    refine c_split rfl (fun hc20 => ?_) (fun hc20 => ?_)
    · skip
      try simp only [Bool.and_eq_true, Bool.or_eq_true, Bool.and_eq_false_iff, Bool.or_eq_false_iff, Bool.not_eq_true', Bool.not_eq_false', decide_eq_true_eq, decide_eq_false_iff_not, beq_iff_eq, beq_eq_false_iff_ne, bne_iff_ne, bne_eq_false_iff_eq, ne_eq, Classical.not_not] at hc20
      refine wp_seq ?_
      refine wp_region_lit ?_
      refine s_val rfl rfl (v_move rfl hs4) ?_
      refine s_val rfl rfl (v_assign rfl rfl) ?_
      refine s_val rfl rfl (v_assign rfl rfl) ?_
      refine wpList_nil ?_
      refine wp_ret ?_
      refine ret_tmp2 Tryz.results24 rfl rfl ?_
      exact ⟨cx.ext, _, tup_b (hv0.trans (valid_0 s i (by omega) (by omega))).symm rfl⟩
    · skip
      try simp only [Bool.and_eq_true, Bool.or_eq_true, Bool.and_eq_false_iff, Bool.or_eq_false_iff, Bool.not_eq_true', Bool.not_eq_false', decide_eq_true_eq, decide_eq_false_iff_not, beq_iff_eq, beq_eq_false_iff_ne, bne_iff_ne, bne_eq_false_iff_eq, ne_eq, Classical.not_not] at hc20
      refine wp_skip ?_
      refine wp_seq ?_
      refine wp_region_lit ?_
      refine s_val rfl rfl (v_move rfl hs5) ?_
      refine s_val rfl rfl (v_move rfl rfl) ?_
      refine s_val rfl rfl (v_add rfl rfl rfl (by omega) (by omega)) ?_
      refine s_val rfl rfl (v_assign rfl rfl) ?_
      refine wpList_nil ?_
      refine wp_region_lit ?_
      refine s_val rfl rfl (v_move rfl hs4) ?_
      refine s_val rfl rfl (v_move rfl rfl) ?_
      refine s_bsl1 cx Tryz.underlying83 sz3 z3 rfl rfl rfl rfl rfl rfl rfl rfl ?_; intro b27 w cx hb27 hw27
      refine s_append cx ei3 Tryz.underlying83 rfl rfl rfl rfl rfl (cx.row 0 rfl) rfl rfl (by omega) ?_; intro v28 w cx hgr28
      replace cx := cx.drop 1
      refine s_val rfl rfl (v_assign rfl rfl) ?_
      refine wpList_nil ?_
      have hsz := szAt_le s i (by omega)
      refine ⟨gk3 - szAt s i, _, by omega, rfl, i + szAt s i, m + 1, _, _, by omega, by omega, ?_, hs0, ?_, rfl, cx⟩
      · rw [hv0]; exact valid_n s i (by omega) (by omega)
      · show Value.int .i64 _ = _
        congr 1
  · skip
    try simp only [Bool.and_eq_true, Bool.or_eq_true, Bool.and_eq_false_iff, Bool.or_eq_false_iff, Bool.not_eq_true', Bool.not_eq_false', decide_eq_true_eq, decide_eq_false_iff_not, beq_iff_eq, beq_eq_false_iff_ne, bne_iff_ne, bne_eq_false_iff_eq, ne_eq, Classical.not_not] at hc12
    refine wp_exit ?_
    refine wp_seq ?_
    refine wp_region_lit ?_
    refine s_val rfl rfl (v_move rfl hs4) ?_
    refine s_val rfl rfl (v_assign rfl rfl) ?_
    refine s_val rfl rfl (v_assign rfl rfl) ?_
    refine wpList_nil ?_
    refine wp_ret ?_
    refine ret_tmp2 Tryz.results24 rfl rfl ?_
    exact ⟨cx.ext, _, tup_b (hv0.trans (valid_end s i (by omega))).symm rfl⟩
set_option maxRecDepth 10000 in
theorem c11 (s : ByteArray) (w0 : World) (hs : s.size ≤ 1073741824) : Fc Tryz.prog 11 [.string s] w0 (IsB fun b => b = validD s.data.toList) := by
  refine ret_enter Tryz.func11 rfl Tryz.ntmps11 rfl ?_
  have cx := Ctx.start w0
  refine wp_seq ?_
  refine wp_region_lit ?_
  refine s_val rfl rfl (v_assign rfl rfl) ?_
  refine wpList_nil ?_
  refine wp_seq ?_
  refine wp_region_lit ?_
  refine s_val rfl rfl (v_move rfl rfl) ?_
  refine s_fn cx (c24 _ _ (by omega)) Tryz.func24 rfl rfl rfl rfl rfl rfl ?_; intro q7 w cx hw7 hp7
  obtain ⟨ex7, rfl⟩ := hp7
  refine s_val rfl rfl (v_move rfl rfl) ?_
  refine s_val rfl rfl (v_extract rfl rfl rfl) ?_
  refine s_val rfl rfl (v_extract rfl rfl rfl) ?_
  refine s_val rfl rfl (v_assign rfl rfl) ?_
  refine s_val rfl rfl (v_assign rfl rfl) ?_
  refine wpList_nil ?_
  refine wp_seq ?_
  refine wp_region_lit ?_
  refine s_val rfl rfl (v_move rfl rfl) ?_
  refine s_val rfl rfl (v_assign rfl rfl) ?_
  refine wpList_nil ?_
  refine wp_ret ?_
  refine ret_tmp Tryz.results11 rfl ?_
  exact ⟨cx.ext, _, rfl, rfl⟩
end Go.Proofs.YthlkmblljanfmaaGreatDoor
end
section
set_option linter.unusedSimpArgs false
set_option linter.unusedVariables false
namespace Go.Proofs.YthlkmblljanfmaaGreatDoor
open Go Go.Dk Go.RowKit Go.Lib
attribute [local irreducible] Go.wpList Go.Code.wp Go.bodyPost Go.wpStill
set_option maxRecDepth 10000 in
theorem c5 (v : Value) (l : List Stp) (w0 : World) (hv : Pth w0 v l) : Fc Tryz.prog 5 [v] w0 (IsB fun b => b = true ↔ GdP l) := by
  obtain ⟨a, c, b, o, rfl, ha, hr⟩ := hv.form
  refine ret_enter Tryz.func5 rfl Tryz.ntmps5 rfl ?_
  have cx := Ctx.start w0
  refine wp_seq ?_
  refine wp_region_lit ?_
  refine s_val rfl rfl (v_assign rfl rfl) ?_
  refine wpList_nil ?_
  refine wp_seq ?_
  refine wp_seq ?_
  refine wp_region_lit ?_
  refine s_val rfl rfl (v_move rfl rfl) ?_
  refine s_val rfl rfl (v_lenSlice rfl rfl Tryz.underlying25) ?_
  refine s_val rfl rfl (v_cmp rfl rfl rfl rfl) ?_
  refine wpList_nil ?_
  refine c_split rfl (fun hc6 => ?_) (fun hc6 => ?_)
  · skip
    try simp only [Bool.and_eq_true, Bool.or_eq_true, Bool.and_eq_false_iff, Bool.or_eq_false_iff, Bool.not_eq_true', Bool.not_eq_false', decide_eq_true_eq, decide_eq_false_iff_not, beq_iff_eq, beq_eq_false_iff_ne, bne_iff_ne, bne_eq_false_iff_eq, ne_eq, Classical.not_not] at hc6
    refine wp_seq ?_
    refine wp_region_lit ?_
    refine s_val rfl rfl (v_assign rfl rfl) ?_
    refine wpList_nil ?_
    refine wp_ret ?_
    refine ret_tmp Tryz.results5 rfl ?_
    refine ⟨cx.ext, _, rfl, (fun h => by cases h), fun h => ?_⟩
    have := h.1
    omega
  · skip
    try simp only [Bool.and_eq_true, Bool.or_eq_true, Bool.and_eq_false_iff, Bool.or_eq_false_iff, Bool.not_eq_true', Bool.not_eq_false', decide_eq_true_eq, decide_eq_false_iff_not, beq_iff_eq, beq_eq_false_iff_ne, bne_iff_ne, bne_eq_false_iff_eq, ne_eq, Classical.not_not] at hc6
    refine wp_skip ?_
    refine wp_seq ?_
    refine wp_seq ?_
    refine wp_region_lit ?_
    refine s_val rfl rfl (v_assign rfl rfl) ?_
    refine wpList_nil ?_
    refine wp_block ?_
    refine w_loop (fun k f w1 => ∃ i : Nat, k + i = l.length ∧ f 0 = .slice a l.length c ∧ f 3 = .int .i64 i ∧ (∀ x ∈ l.take i, Stv x) ∧ Ctx w0 w1 []) (l.length) ?_ ?_
    · skip
      exact ⟨0, by omega, rfl, rfl, by simp, cx⟩
    intro gk4 f w hJ
    obtain ⟨i, hk, hs0, hs3, hall, cx⟩ := hJ
    refine wp_seq ?_
    refine wp_seq ?_
    refine wp_region_lit ?_
    refine s_val rfl rfl (v_move rfl hs3) ?_
    refine s_val rfl rfl (v_move rfl hs0) ?_
    refine s_val rfl rfl (v_lenSlice rfl rfl Tryz.underlying25) ?_
    refine s_val rfl rfl (v_cmp rfl rfl rfl rfl) ?_
    refine wpList_nil ?_
    refine c_split rfl (fun hc10 => ?_) (fun hc10 => ?_)
    · skip
      try simp only [Bool.and_eq_true, Bool.or_eq_true, Bool.and_eq_false_iff, Bool.or_eq_false_iff, Bool.not_eq_true', Bool.not_eq_false', decide_eq_true_eq, decide_eq_false_iff_not, beq_iff_eq, beq_eq_false_iff_ne, bne_iff_ne, bne_eq_false_iff_eq, ne_eq, Classical.not_not] at hc10
      obtain ⟨x, hx⟩ : ∃ x, l[i]? = some x := ⟨l[i]'(by omega), List.getElem?_eq_getElem _⟩
      have hrw := hr i x hx
      obtain rfl := ha (by omega)
      refine wp_skip ?_
      refine wp_seq ?_
      refine wp_block ?_
      refine wp_seq ?_
      refine wp_seq ?_
      refine wp_region_lit ?_
      refine s_val rfl rfl (v_move rfl hs0) ?_
      refine s_val rfl rfl (v_move rfl hs3) ?_
      refine s_val rfl rfl (v_ia Tryz.underlying25 sz46 rfl rfl rfl (by omega) (by omega)) ?_
      refine s_val rfl rfl (v_fa fa46_0 rfl rfl) ?_
      refine s_val rfl rfl (v_load1 rfl rfl Tryz.underlying4 rfl ((hrw.up cx.ext).cell 0 rfl)) ?_
      refine s_val rfl rfl (v_move rfl rfl) ?_
      refine s_gval rfl rfl rfl (by first | exact w_tt rfl | exact w_gt rfl) (fun hc => v_move rfl hs0) ?_
      refine s_gval rfl rfl rfl (by first | exact w_tt rfl | exact w_gt rfl) (fun hc => v_move rfl hs3) ?_
      refine s_gval rfl rfl rfl (by first | exact w_tt rfl | exact w_gt rfl) (fun hc => v_ia Tryz.underlying25 sz46 rfl (by first | exact gve hc rfl | exact gve (and_l hc) rfl | exact gve (and_l (and_l hc)) rfl | rfl) (by first | exact gve hc rfl | exact gve (and_l hc) rfl | exact gve (and_l (and_l hc)) rfl | rfl) (by first | omega | (simp only [Bool.and_eq_true, Bool.or_eq_true, Bool.and_eq_false_iff, Bool.or_eq_false_iff, Bool.not_eq_true', Bool.not_eq_false', decide_eq_true_eq, decide_eq_false_iff_not, beq_iff_eq, beq_eq_false_iff_ne, bne_iff_ne, bne_eq_false_iff_eq, ne_eq, Classical.not_not] at hc; omega)) (by first | omega | (simp only [Bool.and_eq_true, Bool.or_eq_true, Bool.and_eq_false_iff, Bool.or_eq_false_iff, Bool.not_eq_true', Bool.not_eq_false', decide_eq_true_eq, decide_eq_false_iff_not, beq_iff_eq, beq_eq_false_iff_ne, bne_iff_ne, bne_eq_false_iff_eq, ne_eq, Classical.not_not] at hc; omega))) ?_
      refine s_gval rfl rfl rfl (by first | exact w_tt rfl | exact w_gt rfl) (fun hc => v_fa fa46_1 rfl (by first | exact gve hc rfl | exact gve (and_l hc) rfl | exact gve (and_l (and_l hc)) rfl | rfl)) ?_
      refine s_gval rfl rfl rfl (by first | exact w_tt rfl | exact w_gt rfl) (fun hc => v_load1 rfl (by first | exact gve hc rfl | exact gve (and_l hc) rfl | exact gve (and_l (and_l hc)) rfl | rfl) Tryz.underlying9 rfl ((hrw.up cx.ext).cell 1 rfl)) ?_
      refine s_gval rfl rfl rfl (by first | exact w_tt rfl | exact w_gt rfl) (fun hc => v_strNe rfl (by first | exact gve hc rfl | exact gve (and_l hc) rfl | exact gve (and_l (and_l hc)) rfl | rfl) rfl) ?_
      refine s_gval rfl rfl rfl (by first | exact w_tt rfl | exact w_gt rfl) (fun hc => v_move rfl (by first | exact gve hc rfl | exact gve (and_l hc) rfl | exact gve (and_l (and_l hc)) rfl | rfl)) ?_
      refine s_gval rfl rfl rfl (by first | exact w_ff rfl | exact w_gf rfl) (fun hc => v_move rfl hs0) ?_
      refine s_gval rfl rfl rfl (by first | exact w_ff rfl | exact w_gf rfl) (fun hc => v_move rfl hs3) ?_
      refine s_gval rfl rfl rfl (by first | exact w_ff rfl | exact w_gf rfl) (fun hc => v_ia Tryz.underlying25 sz46 rfl (by first | exact gve hc rfl | exact gve (and_l hc) rfl | exact gve (and_l (and_l hc)) rfl | rfl) (by first | exact gve hc rfl | exact gve (and_l hc) rfl | exact gve (and_l (and_l hc)) rfl | rfl) (by first | omega | (simp only [Bool.and_eq_true, Bool.or_eq_true, Bool.and_eq_false_iff, Bool.or_eq_false_iff, Bool.not_eq_true', Bool.not_eq_false', decide_eq_true_eq, decide_eq_false_iff_not, beq_iff_eq, beq_eq_false_iff_ne, bne_iff_ne, bne_eq_false_iff_eq, ne_eq, Classical.not_not] at hc; omega)) (by first | omega | (simp only [Bool.and_eq_true, Bool.or_eq_true, Bool.and_eq_false_iff, Bool.or_eq_false_iff, Bool.not_eq_true', Bool.not_eq_false', decide_eq_true_eq, decide_eq_false_iff_not, beq_iff_eq, beq_eq_false_iff_ne, bne_iff_ne, bne_eq_false_iff_eq, ne_eq, Classical.not_not] at hc; omega))) ?_
      refine s_gval rfl rfl rfl (by first | exact w_ff rfl | exact w_gf rfl) (fun hc => v_fa fa46_2 rfl (by first | exact gve hc rfl | exact gve (and_l hc) rfl | exact gve (and_l (and_l hc)) rfl | rfl)) ?_
      refine s_gval rfl rfl rfl (by first | exact w_ff rfl | exact w_gf rfl) (fun hc => v_load1 rfl (by first | exact gve hc rfl | exact gve (and_l hc) rfl | exact gve (and_l (and_l hc)) rfl | rfl) Tryz.underlying3 rfl ((hrw.up cx.ext).cell 2 rfl)) ?_
      refine s_gval rfl rfl rfl (by first | exact w_ff rfl | exact w_gf rfl) (fun hc => v_cmp rfl (by first | exact gve hc rfl | exact gve (and_l hc) rfl | exact gve (and_l (and_l hc)) rfl | rfl) rfl rfl) ?_
      refine s_gval rfl rfl rfl (by first | exact w_tt rfl | exact w_gt rfl) (fun hc => v_or_g hc rfl rfl rfl rfl) ?_
      refine s_gval rfl rfl rfl (by first | exact w_tt rfl | exact w_gt rfl) (fun hc => v_move rfl (by first | exact gve hc rfl | exact gve (and_l hc) rfl | exact gve (and_l (and_l hc)) rfl | rfl)) ?_
      refine s_gval rfl rfl rfl (by first | exact w_ff rfl | exact w_gf rfl) (fun hc => v_move rfl hs0) ?_
      refine s_gval rfl rfl rfl (by first | exact w_ff rfl | exact w_gf rfl) (fun hc => v_move rfl hs3) ?_
      refine s_gval rfl rfl rfl (by first | exact w_ff rfl | exact w_gf rfl) (fun hc => v_ia Tryz.underlying25 sz46 rfl (by first | exact gve hc rfl | exact gve (and_l hc) rfl | exact gve (and_l (and_l hc)) rfl | rfl) (by first | exact gve hc rfl | exact gve (and_l hc) rfl | exact gve (and_l (and_l hc)) rfl | rfl) (by first | omega | (simp only [Bool.and_eq_true, Bool.or_eq_true, Bool.and_eq_false_iff, Bool.or_eq_false_iff, Bool.not_eq_true', Bool.not_eq_false', decide_eq_true_eq, decide_eq_false_iff_not, beq_iff_eq, beq_eq_false_iff_ne, bne_iff_ne, bne_eq_false_iff_eq, ne_eq, Classical.not_not] at hc; omega)) (by first | omega | (simp only [Bool.and_eq_true, Bool.or_eq_true, Bool.and_eq_false_iff, Bool.or_eq_false_iff, Bool.not_eq_true', Bool.not_eq_false', decide_eq_true_eq, decide_eq_false_iff_not, beq_iff_eq, beq_eq_false_iff_ne, bne_iff_ne, bne_eq_false_iff_eq, ne_eq, Classical.not_not] at hc; omega))) ?_
      refine s_gval rfl rfl rfl (by first | exact w_ff rfl | exact w_gf rfl) (fun hc => v_fa fa46_2 rfl (by first | exact gve hc rfl | exact gve (and_l hc) rfl | exact gve (and_l (and_l hc)) rfl | rfl)) ?_
      refine s_gval rfl rfl rfl (by first | exact w_ff rfl | exact w_gf rfl) (fun hc => v_load1 rfl (by first | exact gve hc rfl | exact gve (and_l hc) rfl | exact gve (and_l (and_l hc)) rfl | rfl) Tryz.underlying3 rfl ((hrw.up cx.ext).cell 2 rfl)) ?_
      refine s_gval rfl rfl rfl (by first | exact w_ff rfl | exact w_gf rfl) (fun hc => v_cmp rfl (by first | exact gve hc rfl | exact gve (and_l hc) rfl | exact gve (and_l (and_l hc)) rfl | rfl) rfl rfl) ?_
      refine s_gval rfl rfl rfl (by first | exact w_tt rfl | exact w_gt rfl) (fun hc => v_or_g hc rfl rfl rfl rfl) ?_
      refine s_val rfl rfl (v_and rfl rfl rfl rfl) ?_
      refine wpList_nil ?_
      refine c_split rfl (fun hc41 => ?_) (fun hc41 => ?_)
      · skip
        try simp only [Bool.and_eq_true, Bool.or_eq_true, Bool.and_eq_false_iff, Bool.or_eq_false_iff, Bool.not_eq_true', Bool.not_eq_false', decide_eq_true_eq, decide_eq_false_iff_not, beq_iff_eq, beq_eq_false_iff_ne, bne_iff_ne, bne_eq_false_iff_eq, ne_eq, Classical.not_not] at hc41
        refine wp_seq ?_
        refine wp_region_lit ?_
        refine s_val rfl rfl (v_assign rfl rfl) ?_
        refine wpList_nil ?_
        refine wp_ret ?_
        refine ret_tmp Tryz.results5 rfl ?_
        refine ⟨cx.ext, _, rfl, (fun h => by cases h), fun h => ?_⟩
        exfalso
        have hx' := h.2 x (List.mem_of_getElem? hx)
        obtain ⟨h1, h2⟩ := hc41
        obtain ⟨h3, h4, h5⟩ := hx'.1 h1
        rcases h2 with (h2 | h2) | h2
        · exact h2 h3
        · omega
        · omega
      · skip
        try simp only [Bool.and_eq_true, Bool.or_eq_true, Bool.and_eq_false_iff, Bool.or_eq_false_iff, Bool.not_eq_true', Bool.not_eq_false', decide_eq_true_eq, decide_eq_false_iff_not, beq_iff_eq, beq_eq_false_iff_ne, bne_iff_ne, bne_eq_false_iff_eq, ne_eq, Classical.not_not] at hc41
        refine wp_skip ?_
        refine wp_seq ?_
        refine wp_region_lit ?_
        refine s_val rfl rfl (v_move rfl hs0) ?_
        refine s_val rfl rfl (v_move rfl hs3) ?_
        refine s_val rfl rfl (v_ia Tryz.underlying25 sz46 rfl rfl rfl (by omega) (by omega)) ?_
        refine s_val rfl rfl (v_fa fa46_0 rfl rfl) ?_
        refine s_val rfl rfl (v_load1 rfl rfl Tryz.underlying4 rfl ((hrw.up cx.ext).cell 0 rfl)) ?_
        refine s_val rfl rfl (v_not rfl rfl) ?_
        refine s_val rfl rfl (v_move rfl rfl) ?_
        refine s_gval rfl rfl rfl (by first | exact w_tt rfl | exact w_gt rfl) (fun hc => v_move rfl hs0) ?_
        refine s_gval rfl rfl rfl (by first | exact w_tt rfl | exact w_gt rfl) (fun hc => v_move rfl hs3) ?_
        refine s_gval rfl rfl rfl (by first | exact w_tt rfl | exact w_gt rfl) (fun hc => v_ia Tryz.underlying25 sz46 rfl (by first | exact gve hc rfl | exact gve (and_l hc) rfl | exact gve (and_l (and_l hc)) rfl | rfl) (by first | exact gve hc rfl | exact gve (and_l hc) rfl | exact gve (and_l (and_l hc)) rfl | rfl) (by first | omega | (simp only [Bool.and_eq_true, Bool.or_eq_true, Bool.and_eq_false_iff, Bool.or_eq_false_iff, Bool.not_eq_true', Bool.not_eq_false', decide_eq_true_eq, decide_eq_false_iff_not, beq_iff_eq, beq_eq_false_iff_ne, bne_iff_ne, bne_eq_false_iff_eq, ne_eq, Classical.not_not] at hc; omega)) (by first | omega | (simp only [Bool.and_eq_true, Bool.or_eq_true, Bool.and_eq_false_iff, Bool.or_eq_false_iff, Bool.not_eq_true', Bool.not_eq_false', decide_eq_true_eq, decide_eq_false_iff_not, beq_iff_eq, beq_eq_false_iff_ne, bne_iff_ne, bne_eq_false_iff_eq, ne_eq, Classical.not_not] at hc; omega))) ?_
        refine s_gval rfl rfl rfl (by first | exact w_tt rfl | exact w_gt rfl) (fun hc => v_fa fa46_2 rfl (by first | exact gve hc rfl | exact gve (and_l hc) rfl | exact gve (and_l (and_l hc)) rfl | rfl)) ?_
        refine s_gval rfl rfl rfl (by first | exact w_tt rfl | exact w_gt rfl) (fun hc => v_load1 rfl (by first | exact gve hc rfl | exact gve (and_l hc) rfl | exact gve (and_l (and_l hc)) rfl | rfl) Tryz.underlying3 rfl ((hrw.up cx.ext).cell 2 rfl)) ?_
        refine s_gval rfl rfl rfl (by first | exact w_tt rfl | exact w_gt rfl) (fun hc => v_cmp rfl (by first | exact gve hc rfl | exact gve (and_l hc) rfl | exact gve (and_l (and_l hc)) rfl | rfl) rfl rfl) ?_
        refine s_gval rfl rfl rfl (by first | exact w_tt rfl | exact w_gt rfl) (fun hc => v_move rfl (by first | exact gve hc rfl | exact gve (and_l hc) rfl | exact gve (and_l (and_l hc)) rfl | rfl)) ?_
        refine s_gval rfl rfl rfl (by first | exact w_ff rfl | exact w_gf rfl) (fun hc => v_move rfl hs0) ?_
        refine s_gval rfl rfl rfl (by first | exact w_ff rfl | exact w_gf rfl) (fun hc => v_move rfl hs3) ?_
        refine s_gval rfl rfl rfl (by first | exact w_ff rfl | exact w_gf rfl) (fun hc => v_ia Tryz.underlying25 sz46 rfl (by first | exact gve hc rfl | exact gve (and_l hc) rfl | exact gve (and_l (and_l hc)) rfl | rfl) (by first | exact gve hc rfl | exact gve (and_l hc) rfl | exact gve (and_l (and_l hc)) rfl | rfl) (by first | omega | (simp only [Bool.and_eq_true, Bool.or_eq_true, Bool.and_eq_false_iff, Bool.or_eq_false_iff, Bool.not_eq_true', Bool.not_eq_false', decide_eq_true_eq, decide_eq_false_iff_not, beq_iff_eq, beq_eq_false_iff_ne, bne_iff_ne, bne_eq_false_iff_eq, ne_eq, Classical.not_not] at hc; omega)) (by first | omega | (simp only [Bool.and_eq_true, Bool.or_eq_true, Bool.and_eq_false_iff, Bool.or_eq_false_iff, Bool.not_eq_true', Bool.not_eq_false', decide_eq_true_eq, decide_eq_false_iff_not, beq_iff_eq, beq_eq_false_iff_ne, bne_iff_ne, bne_eq_false_iff_eq, ne_eq, Classical.not_not] at hc; omega))) ?_
        refine s_gval rfl rfl rfl (by first | exact w_ff rfl | exact w_gf rfl) (fun hc => v_fa fa46_1 rfl (by first | exact gve hc rfl | exact gve (and_l hc) rfl | exact gve (and_l (and_l hc)) rfl | rfl)) ?_
        refine s_gval rfl rfl rfl (by first | exact w_ff rfl | exact w_gf rfl) (fun hc => v_load1 rfl (by first | exact gve hc rfl | exact gve (and_l hc) rfl | exact gve (and_l (and_l hc)) rfl | rfl) Tryz.underlying9 rfl ((hrw.up cx.ext).cell 1 rfl)) ?_
        refine s_gval rfl rfl rfl (by first | exact w_ff rfl | exact w_gf rfl) (fun hc => v_lenString rfl (by first | exact gve hc rfl | exact gve (and_l hc) rfl | exact gve (and_l (and_l hc)) rfl | rfl) Tryz.underlying9) ?_
        refine s_gval rfl rfl rfl (by first | exact w_ff rfl | exact w_gf rfl) (fun hc => v_cmp rfl (by first | exact gve hc rfl | exact gve (and_l hc) rfl | exact gve (and_l (and_l hc)) rfl | rfl) rfl rfl) ?_
        refine s_gval rfl rfl rfl (by first | exact w_tt rfl | exact w_gt rfl) (fun hc => v_or_g hc rfl rfl rfl rfl) ?_
        refine s_gval rfl rfl rfl (by first | exact w_tt rfl | exact w_gt rfl) (fun hc => v_move rfl (by first | exact gve hc rfl | exact gve (and_l hc) rfl | exact gve (and_l (and_l hc)) rfl | rfl)) ?_
        refine s_gval rfl rfl rfl (by first | exact w_ff rfl | exact w_gf rfl) (fun hc => v_move rfl hs0) ?_
        refine s_gval rfl rfl rfl (by first | exact w_ff rfl | exact w_gf rfl) (fun hc => v_move rfl hs3) ?_
        refine s_gval rfl rfl rfl (by first | exact w_ff rfl | exact w_gf rfl) (fun hc => v_ia Tryz.underlying25 sz46 rfl (by first | exact gve hc rfl | exact gve (and_l hc) rfl | exact gve (and_l (and_l hc)) rfl | rfl) (by first | exact gve hc rfl | exact gve (and_l hc) rfl | exact gve (and_l (and_l hc)) rfl | rfl) (by first | omega | (simp only [Bool.and_eq_true, Bool.or_eq_true, Bool.and_eq_false_iff, Bool.or_eq_false_iff, Bool.not_eq_true', Bool.not_eq_false', decide_eq_true_eq, decide_eq_false_iff_not, beq_iff_eq, beq_eq_false_iff_ne, bne_iff_ne, bne_eq_false_iff_eq, ne_eq, Classical.not_not] at hc; omega)) (by first | omega | (simp only [Bool.and_eq_true, Bool.or_eq_true, Bool.and_eq_false_iff, Bool.or_eq_false_iff, Bool.not_eq_true', Bool.not_eq_false', decide_eq_true_eq, decide_eq_false_iff_not, beq_iff_eq, beq_eq_false_iff_ne, bne_iff_ne, bne_eq_false_iff_eq, ne_eq, Classical.not_not] at hc; omega))) ?_
        refine s_gval rfl rfl rfl (by first | exact w_ff rfl | exact w_gf rfl) (fun hc => v_fa fa46_1 rfl (by first | exact gve hc rfl | exact gve (and_l hc) rfl | exact gve (and_l (and_l hc)) rfl | rfl)) ?_
        refine s_gval rfl rfl rfl (by first | exact w_ff rfl | exact w_gf rfl) (fun hc => v_load1 rfl (by first | exact gve hc rfl | exact gve (and_l hc) rfl | exact gve (and_l (and_l hc)) rfl | rfl) Tryz.underlying9 rfl ((hrw.up cx.ext).cell 1 rfl)) ?_
        refine s_gfnB cx rfl rfl rfl (by first | exact w_ff rfl | exact w_gf rfl) (fun hc => c11 x.key _ (by first | omega | (simp only [Bool.and_eq_true, Bool.or_eq_true, Bool.and_eq_false_iff, Bool.or_eq_false_iff, Bool.not_eq_true', Bool.not_eq_false', decide_eq_true_eq, decide_eq_false_iff_not, beq_iff_eq, beq_eq_false_iff_ne, bne_iff_ne, bne_eq_false_iff_eq, ne_eq, Classical.not_not] at hc; omega))) Tryz.func11 rfl rfl rfl (fun hc => (cons_eq (by first | exact gve hc rfl | exact gve (and_l hc) rfl | exact gve (and_l (and_l hc)) rfl | rfl) rfl)) ?_; intro q70 w cx hw70 hp70
        refine s_gval rfl rfl rfl (by first | exact w_ff rfl | exact w_gf rfl) (fun hc => v_not rfl (by first | exact gve hc rfl | exact gve (and_l hc) rfl | exact gve (and_l (and_l hc)) rfl | rfl)) ?_
        refine s_gval rfl rfl rfl (by first | exact w_tt rfl | exact w_gt rfl) (fun hc => v_or_g hc rfl rfl rfl rfl) ?_
        refine s_val rfl rfl (v_and rfl rfl rfl rfl) ?_
        refine wpList_nil ?_
        refine c_split rfl (fun hc73 => ?_) (fun hc73 => ?_)
        · skip
          try simp only [Bool.and_eq_true, Bool.or_eq_true, Bool.and_eq_false_iff, Bool.or_eq_false_iff, Bool.not_eq_true', Bool.not_eq_false', decide_eq_true_eq, decide_eq_false_iff_not, beq_iff_eq, beq_eq_false_iff_ne, bne_iff_ne, bne_eq_false_iff_eq, ne_eq, Classical.not_not] at hc73
          refine wp_seq ?_
          refine wp_region_lit ?_
          refine s_val rfl rfl (v_assign rfl rfl) ?_
          refine wpList_nil ?_
          refine wp_ret ?_
          refine ret_tmp Tryz.results5 rfl ?_
          refine ⟨cx.ext, _, rfl, (fun h => by cases h), fun h => ?_⟩
          exfalso
          have hx' := h.2 x (List.mem_of_getElem? hx)
          obtain ⟨h1, h2⟩ := hc73
          obtain ⟨h3, h4, h5⟩ := hx'.2 h1
          rcases h2 with (h2 | h2) | h2
          · exact h2 h3
          · omega
          · rw [hp70 (by first | (simp [h1, h3]; omega) | simp [h1, h3, h4]), h5] at h2
            cases h2
        · skip
          try simp only [Bool.and_eq_true, Bool.or_eq_true, Bool.and_eq_false_iff, Bool.or_eq_false_iff, Bool.not_eq_true', Bool.not_eq_false', decide_eq_true_eq, decide_eq_false_iff_not, beq_iff_eq, beq_eq_false_iff_ne, bne_iff_ne, bne_eq_false_iff_eq, ne_eq, Classical.not_not] at hc73
          refine wp_skip ?_
          refine wp_region_lit ?_
          refine s_val rfl rfl (v_move rfl hs3) ?_
          refine s_val rfl rfl (v_add rfl rfl rfl (by omega) (by omega)) ?_
          refine s_val rfl rfl (v_assign rfl rfl) ?_
          refine wpList_nil ?_
          refine ⟨gk4 - 1, _, by omega, rfl, i + 1, by omega, hs0, rfl, fun y hy => ?_, cx⟩
          obtain ⟨hi, e⟩ := List.getElem?_eq_some_iff.1 hx
          rw [List.take_succ_eq_append_getElem hi] at hy
          rcases List.mem_append.1 hy with hy | hy
          · exact hall y hy
          · rw [e] at hy
            obtain rfl := List.mem_singleton.1 hy
            refine ⟨fun h => ?_, fun h => ?_⟩
            · rcases hc41 with h1 | h1
              · rw [h] at h1; cases h1
              · exact ⟨h1.1.1, by omega, by omega⟩
            · rcases hc73 with h1 | h1
              · rw [h] at h1; cases h1
              · obtain ⟨⟨h2, h3⟩, h4⟩ := h1
                refine ⟨h2, by omega, ?_⟩
                rw [← hp70 (by first | (simp [h, h2]; omega) | simp [h, h2, h3])]
                exact h4
    · skip
      try simp only [Bool.and_eq_true, Bool.or_eq_true, Bool.and_eq_false_iff, Bool.or_eq_false_iff, Bool.not_eq_true', Bool.not_eq_false', decide_eq_true_eq, decide_eq_false_iff_not, beq_iff_eq, beq_eq_false_iff_ne, bne_iff_ne, bne_eq_false_iff_eq, ne_eq, Classical.not_not] at hc10
      refine wp_exit ?_
      refine wp_seq ?_
      refine wp_region_lit ?_
      refine s_val rfl rfl (v_assign rfl rfl) ?_
      refine wpList_nil ?_
      refine wp_ret ?_
      refine ret_tmp Tryz.results5 rfl ?_
      refine ⟨cx.ext, _, rfl, fun _ => ⟨by omega, ?_⟩, fun _ => rfl⟩
      have e : i = l.length := by omega
      subst e
      rw [List.take_length] at hall
      exact hall
end Go.Proofs.YthlkmblljanfmaaGreatDoor
end
