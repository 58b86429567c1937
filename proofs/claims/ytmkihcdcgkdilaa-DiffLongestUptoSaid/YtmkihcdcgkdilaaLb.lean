/-
  Contract: the length of a longest common subsequence.
-/
import Derived.Test.YtmkihcdcgkdilaaQh
import Derived.Test.YtmkihcdcgkdilaaLa
namespace Go.Proofs.Ytmkihcdcgkdilaa
open Go Go.Dk Go.RowKit
set_option linter.unusedSimpArgs false
set_option linter.unusedVariables false
attribute [local irreducible] Go.wpList Go.Code.wp Go.bodyPost Go.wpStill Go.wpQuiet
set_option maxRecDepth 10000 in
set_option maxHeartbeats 6400000 in
theorem c28 (E : V → V → Bool) (hE : ∀ x y, E x y = true ↔ canon x = canon y) (a b : List V) (s1 s2 : Value) (w0 : World) (hla : Lst w0 s1 a) (hlb : Lst w0 s2 b) (hoa : ∀ x ∈ a, Fine x) (hob : ∀ x ∈ b, Fine x) (hna : a.length ≤ 200) (hnb : b.length ≤ 200) : Fc Try.prog 28 [s1, s2] w0 (IsI fun m => m = (mst E a b 0 0 : Int)) := by
  obtain ⟨a1, c1, b1, o1, rfl, hfa1, hget1⟩ := hla.open
  obtain ⟨a2, c2, b2, o2, rfl, hfa2, hget2⟩ := hlb.open
  refine ret_enter Try.func28 rfl Try.ntmps28 rfl ?_
  have cx := Ctx.start w0
  refine wp_seq ?_
  refine wp_region_lit ?_
  refine s_val rfl rfl (v_assign rfl rfl) ?_
  refine wpList_nil ?_
  refine wp_seq ?_
  refine wp_region_lit ?_
  refine s_val rfl rfl (v_move rfl rfl) ?_
  refine s_val rfl rfl (v_lenSlice rfl rfl Try.underlying30) ?_
  refine s_val rfl rfl (v_addQ rfl rfl rfl (r := ((b.length + 1 : Nat) : Int)) (by omega) (by omega) (by omega)) ?_
  refine s_make (bytes := 8) (nn := (b.length + 1)) cx Try.underlying82 mk82 rfl rfl rfl rfl rfl (by omega) (by unfold maxLen; omega) ?_; intro q12 w cx hgr12 hq12
  obtain ⟨g1, rfl⟩ := hq12
  refine s_val rfl rfl (v_assign rfl rfl) ?_
  refine wpList_nil ?_
  refine wp_seq ?_
  refine wp_seq ?_
  refine wp_region_lit ?_
  rw [show ([Value.int .i64 0].getD 0 undef) = Value.int .i64 0 from rfl, mkI_zero] at cx
  refine s_val rfl rfl (v_move rfl rfl) ?_
  refine s_val rfl rfl (v_lenSlice rfl rfl Try.underlying30) ?_
  refine s_val rfl rfl (v_sub rfl rfl rfl (by omega) (by omega)) ?_
  refine s_val rfl rfl (v_assign rfl rfl) ?_
  refine wpList_nil ?_
  refine wp_block ?_
  refine w_loop (fun k f w1 => ∃ (ii : Nat) (F : Nat → Int) (g1 : Nat), k = ii ∧ f 0 = .slice a1 a.length c1 ∧ f 1 = .slice a2 b.length c2 ∧ f 5 = .slice (some ⟨g1, 0, none⟩) (b.length + 1) (b.length + 1) ∧ f 6 = .int .i64 ((ii : Int) - 1) ∧ ii ≤ a.length ∧ (∀ k, k ≤ b.length → F k = (mst E a b ii k : Int)) ∧ Cxr w0 w1 [] [⟨3, 1, .slice (some ⟨g1, 0, none⟩) (b.length + 1) (b.length + 1), (b.length + 1), mkI F (b.length + 1)⟩]) (a.length) ?_ ?_
  · skip
    exact ⟨a.length, _, g1, rfl, rfl, rfl, rfl, rfl, by omega, (fun k hk => by rw [mst_n E a b k (by omega)]; rfl), cx⟩
  intro gk3 f w hJ
  obtain ⟨ii, F, g1, hki, hs0, hs1, hs5, hs6, hii, hF, cx⟩ := hJ
  refine wp_seq ?_
  refine wp_seq ?_
  refine wp_region_lit ?_
  refine s_val rfl rfl (v_move rfl hs6) ?_
  refine s_val rfl rfl (v_cmp rfl rfl rfl rfl) ?_
  refine wpList_nil ?_
  refine c_split rfl (fun hc17 => ?_) (fun hc17 => ?_)
  · skip
    try simp only [Bool.and_eq_true, Bool.or_eq_true, Bool.and_eq_false_iff, Bool.or_eq_false_iff, Bool.not_eq_true', Bool.not_eq_false', decide_eq_true_eq, decide_eq_false_iff_not, beq_iff_eq, beq_eq_false_iff_ne, bne_iff_ne, bne_eq_false_iff_eq, ne_eq, Classical.not_not] at hc17
    obtain ⟨i, rfl⟩ : ∃ i, ii = i + 1 := ⟨ii - 1, by omega⟩
    have hs6' : f 6 = .int .i64 (i : Nat) := by rw [hs6]; congr 1; omega
    refine wp_skip ?_
    refine wp_seq ?_
    refine wp_block ?_
    refine wp_seq ?_
    refine wp_region_lit ?_
    refine s_val rfl rfl (v_move rfl hs1) ?_
    refine s_val rfl rfl (v_lenSlice rfl rfl Try.underlying30) ?_
    refine s_val rfl rfl (v_addQ rfl rfl rfl (r := ((b.length + 1 : Nat) : Int)) (by omega) (by omega) (by omega)) ?_
    refine s_make (bytes := 8) (nn := (b.length + 1)) cx Try.underlying82 mk82 rfl rfl rfl rfl rfl (by omega) (by unfold maxLen; omega) ?_; intro q23 w cx hgr23 hq23
    obtain ⟨g2, rfl⟩ := hq23
    refine s_val rfl rfl (v_assign rfl rfl) ?_
    refine wpList_nil ?_
    refine wp_seq ?_
    refine wp_seq ?_
    refine wp_region_lit ?_
    rw [show ([Value.int .i64 0].getD 0 undef) = Value.int .i64 0 from rfl, mkI_zero] at cx
    refine s_val rfl rfl (v_move rfl hs1) ?_
    refine s_val rfl rfl (v_lenSlice rfl rfl Try.underlying30) ?_
    refine s_val rfl rfl (v_sub rfl rfl rfl (by omega) (by omega)) ?_
    refine s_val rfl rfl (v_assign rfl rfl) ?_
    refine wpList_nil ?_
    refine wp_block ?_
    refine w_loop (fun k f w1 => ∃ (kk : Nat) (G : Nat → Int), k = kk ∧ f 0 = .slice a1 a.length c1 ∧ f 1 = .slice a2 b.length c2 ∧ f 5 = .slice (some ⟨g1, 0, none⟩) (b.length + 1) (b.length + 1) ∧ f 6 = .int .i64 (i : Nat) ∧ f 7 = .slice (some ⟨g2, 0, none⟩) (b.length + 1) (b.length + 1) ∧ f 8 = .int .i64 ((kk : Int) - 1) ∧ kk ≤ b.length ∧ (∀ k, kk ≤ k → k ≤ b.length → G k = (mst E a b i k : Int)) ∧ Cxr w0 w1 [] [⟨3, 1, .slice (some ⟨g2, 0, none⟩) (b.length + 1) (b.length + 1), (b.length + 1), mkI G (b.length + 1)⟩, ⟨3, 1, .slice (some ⟨g1, 0, none⟩) (b.length + 1) (b.length + 1), (b.length + 1), mkI F (b.length + 1)⟩]) (b.length) ?_ ?_
    · skip
      exact ⟨b.length, _, rfl, hs0, hs1, hs5, hs6', rfl, rfl, by omega, (fun k h1 h2 => by rw [mst_m E a b i (by omega)]; rfl), cx⟩
    intro gk7 f w hJ
    obtain ⟨kk, G, hkk, hs0, hs1, hs5, hs6', hs7, hs8, hkb, hG, cx⟩ := hJ
    refine wp_seq ?_
    refine wp_seq ?_
    refine wp_region_lit ?_
    refine s_val rfl rfl (v_move rfl hs8) ?_
    refine s_val rfl rfl (v_cmp rfl rfl rfl rfl) ?_
    refine wpList_nil ?_
    refine c_split rfl (fun hc28 => ?_) (fun hc28 => ?_)
    · skip
      try simp only [Bool.and_eq_true, Bool.or_eq_true, Bool.and_eq_false_iff, Bool.or_eq_false_iff, Bool.not_eq_true', Bool.not_eq_false', decide_eq_true_eq, decide_eq_false_iff_not, beq_iff_eq, beq_eq_false_iff_ne, bne_iff_ne, bne_eq_false_iff_eq, ne_eq, Classical.not_not] at hc28
      obtain ⟨k, rfl⟩ : ∃ k, kk = k + 1 := ⟨kk - 1, by omega⟩
      have hs8' : f 8 = .int .i64 (k : Nat) := by rw [hs8]; congr 1; omega
      have hF1 := hF k (by omega)
      have hF2 := hF (k + 1) (by omega)
      have hG1 := hG (k + 1) (by omega) (by omega)
      have hst := mst_step E a b (i := i) (k := k) (by omega) (by omega)
      have hml := mst_le E a b _ i (k + 1) rfl
      have hml2 := mst_le E a b _ (i + 1) k rfl
      have hml3 := mst_le E a b _ (i + 1) (k + 1) rfl
      have hge1 : a[i]? = some a[i] := List.getElem?_eq_getElem (by omega)
      have hge2 : b[k]? = some b[k] := List.getElem?_eq_getElem (by omega)
      obtain rfl := hfa1 (by omega)
      obtain rfl := hfa2 (by omega)
      obtain ⟨r1, hr1, hv1⟩ := hget1 i _ hge1
      obtain ⟨r2, hr2, hv2⟩ := hget2 k _ hge2
      refine wp_skip ?_
      refine wp_seq ?_
      refine wp_block ?_
      refine wp_seq ?_
      refine w_ordF cx mixed [(0, 31), (1, 32), (2, 33), (3, 34), (4, 35), (5, 36), (6, 37), (7, 38), (8, 39), (9, 40), (10, 41), (11, 42), (12, 43)] #[true, true, true, true, true, true, true, true, true, true, true, true, true, false] (by kernel_rfl) (by kernel_rfl) (by kernel_rfl) (by kernel_rfl) ?_
      refine pu_one rfl (wnt_none rfl) (fun w cx => v_move rfl hs7) ?_
      refine pu_one rfl (wnt_none rfl) (fun w cx => v_move rfl hs8') ?_
      refine pu_one rfl (wnt_none rfl) (fun w cx => v_move rfl hs5) ?_
      refine pu_one rfl (wnt_none rfl) (fun w cx => v_move rfl hs8') ?_
      refine pu_one rfl (wnt_none rfl) (fun w cx => v_ia Try.underlying82 sz3 rfl rfl rfl (by omega) (by omega)) ?_
      refine pu_one rfl (wnt_none rfl) (fun w cx => v_load1 rfl rfl Try.underlying3 rfl ((cx.rowAt (List.mem_cons_of_mem _ (List.mem_cons_self ..)) (by omega)) _ _ (by rw [Int.toNat_natCast, Nat.mul_one]; exact (mkI_at (by omega)).trans (by rw [hF1])))) ?_
      refine pu_one rfl (wnt_none rfl) (fun w cx => v_move rfl hs7) ?_
      refine pu_one rfl (wnt_none rfl) (fun w cx => v_move rfl hs8') ?_
      refine pu_one rfl (wnt_none rfl) (fun w cx => v_addQ rfl rfl rfl (r := ((k + 1 : Nat) : Int)) (by omega) (by omega) (by omega)) ?_
      refine pu_one rfl (wnt_none rfl) (fun w cx => v_ia Try.underlying82 sz3 rfl rfl rfl (by omega) (by omega)) ?_
      refine pu_one rfl (wnt_none rfl) (fun w cx => v_load1 rfl rfl Try.underlying3 rfl ((cx.rowAt (List.mem_cons_self ..) (by omega)) _ _ (by rw [Int.toNat_natCast, Nat.mul_one]; exact (mkI_at (by omega)).trans (by rw [hG1])))) ?_
      refine pu_one rfl (wnt_none rfl) (fun w cx => v_max rfl rfl rfl) ?_
      refine pu_one rfl (wnt_none rfl) (fun w cx => v_ia Try.underlying82 sz3 rfl rfl rfl (by omega) (by omega)) ?_
      refine pu_nil ?_; intro w cx hwD9
      refine x_one (i := 13) (by kernel_rfl) rfl ?_
      refine s_cell (v := .int .i64 (max (mst E a b (i + 1) k : Int) (mst E a b i (k + 1) : Int))) cx rfl rfl rfl rfl rfl rfl (by rw [mkI_len]; omega) sz3 ?_; intro w cx hg9
      rw [show (0 + ((k : Nat) : Int).toNat * 1) = k by rw [Int.toNat_natCast]; omega, mkI_set] at cx
      refine x_next ⟨.inr (by kernel_rfl), ?_⟩
      refine x_done (by kernel_rfl) ?_
      refine wp_seq ?_
      refine w_quiet cx mixed (by kernel_rfl) ?_
      skip
      refine q_val rfl rfl (fun w cx hwQ => v_move rfl hs0) ?_
      refine q_val rfl rfl (fun w cx hwQ => v_move rfl hs6') ?_
      refine q_val rfl rfl (fun w cx hwQ => v_ia Try.underlying30 sz33 rfl rfl rfl (by omega) (by omega)) ?_
      refine q_val rfl rfl (fun w cx hwQ => v_load rfl rfl Try.underlying33 rfl sz33 (hr1.up cx.ext) hv1.len) ?_
      refine q_val rfl rfl (fun w cx hwQ => v_move rfl hs1) ?_
      refine q_val rfl rfl (fun w cx hwQ => v_move rfl hs8') ?_
      refine q_val rfl rfl (fun w cx hwQ => v_ia Try.underlying30 sz33 rfl rfl rfl (by omega) (by omega)) ?_
      refine q_val rfl rfl (fun w cx hwQ => v_load rfl rfl Try.underlying33 rfl sz33 (hr2.up cx.ext) hv2.len) ?_
      refine q_call rfl rfl (runs_fn Try.func27 rfl rfl rfl rfl) (fun w cx hwQ => (c27 _ _ _ _ _ (hoa _ (List.getElem_mem _)) (hob _ (List.getElem_mem _)) (hv1.up cx.ext) (hv2.up cx.ext)).det fun b hb => Bool.eq_iff_iff.2 (hb.trans (hE _ _).symm)) ?_
      refine q_nil ?_; rintro w ⟨cx, hwQ10⟩
      refine c_split rfl (fun hc52 => ?_) (fun hc52 => ?_)
      · skip
        skip
        refine w_ordF cx mixed [(0, 53), (1, 54), (2, 55), (3, 56), (4, 57), (5, 58), (6, 59), (7, 60), (8, 61), (9, 62), (10, 63), (11, 64), (12, 65), (13, 66)] #[true, true, true, true, true, true, true, true, true, true, true, true, true, true, false] (by kernel_rfl) (by kernel_rfl) (by kernel_rfl) (by kernel_rfl) ?_
        refine pu_one rfl (wnt_none rfl) (fun w cx => v_move rfl hs7) ?_
        refine pu_one rfl (wnt_none rfl) (fun w cx => v_move rfl hs8') ?_
        refine pu_one rfl (wnt_none rfl) (fun w cx => v_move rfl hs7) ?_
        refine pu_one rfl (wnt_none rfl) (fun w cx => v_move rfl hs8') ?_
        refine pu_one rfl (wnt_none rfl) (fun w cx => v_ia Try.underlying82 sz3 rfl rfl rfl (by omega) (by omega)) ?_
        refine pu_one rfl (wnt_none rfl) (fun w cx => v_load1 rfl rfl Try.underlying3 rfl ((cx.rowAt (List.mem_cons_self ..) (by omega)) _ _ (by rw [Int.toNat_natCast, Nat.mul_one]; exact (mkI_at (by omega)).trans (by rw [if_pos rfl])))) ?_
        refine pu_one rfl (wnt_none rfl) (fun w cx => v_move rfl hs5) ?_
        refine pu_one rfl (wnt_none rfl) (fun w cx => v_move rfl hs8') ?_
        refine pu_one rfl (wnt_none rfl) (fun w cx => v_addQ rfl rfl rfl (r := ((k + 1 : Nat) : Int)) (by omega) (by omega) (by omega)) ?_
        refine pu_one rfl (wnt_none rfl) (fun w cx => v_ia Try.underlying82 sz3 rfl rfl rfl (by omega) (by omega)) ?_
        refine pu_one rfl (wnt_none rfl) (fun w cx => v_load1 rfl rfl Try.underlying3 rfl ((cx.rowAt (List.mem_cons_of_mem _ (List.mem_cons_self ..)) (by omega)) _ _ (by rw [Int.toNat_natCast, Nat.mul_one]; exact (mkI_at (by omega)).trans (by rw [hF2])))) ?_
        refine pu_one rfl (wnt_none rfl) (fun w cx => v_add rfl rfl rfl (by omega) (by omega)) ?_
        refine pu_one rfl (wnt_none rfl) (fun w cx => v_max rfl rfl rfl) ?_
        refine pu_one rfl (wnt_none rfl) (fun w cx => v_ia Try.underlying82 sz3 rfl rfl rfl (by omega) (by omega)) ?_
        refine pu_nil ?_; intro w cx hwD11
        refine x_one (i := 14) (by kernel_rfl) rfl ?_
        refine s_cell (v := .int .i64 (max (max (mst E a b (i + 1) k : Int) (mst E a b i (k + 1) : Int)) (1 + (mst E a b (i + 1) (k + 1) : Int)))) cx rfl rfl rfl rfl rfl rfl (by rw [mkI_len]; omega) sz3 ?_; intro w cx hg11
        rw [show (0 + ((k : Nat) : Int).toNat * 1) = k by rw [Int.toNat_natCast]; omega, mkI_set] at cx
        refine x_next ⟨.inr (by kernel_rfl), ?_⟩
        refine x_done (by kernel_rfl) ?_
        refine wp_region_lit ?_
        refine s_val rfl rfl (v_move rfl hs8) ?_
        refine s_val rfl rfl (v_sub rfl rfl rfl (by omega) (by omega)) ?_
        refine s_val rfl rfl (v_assign rfl rfl) ?_
        refine wpList_nil ?_
        have hEt : E a[i] b[k] = true := hc52
        refine ⟨k, _, by omega, rfl, k, _, rfl, hs0, hs1, hs5, hs6', hs7, by show Value.int .i64 _ = _; congr 1 <;> omega, by omega, ?_, cx⟩
        intro j h1 h2
        rw [if_pos hEt] at hst
        by_cases hj : j = k
        · simp only [hj, if_pos]; omega
        · simp only [hj, if_neg]; exact hG j (by omega) h2
      · skip
        skip
        refine wp_skip ?_
        refine wp_region_lit ?_
        refine s_val rfl rfl (v_move rfl hs8) ?_
        refine s_val rfl rfl (v_sub rfl rfl rfl (by omega) (by omega)) ?_
        refine s_val rfl rfl (v_assign rfl rfl) ?_
        refine wpList_nil ?_
        have hEf : ¬ E a[i] b[k] = true := by intro h; have h2 : E a[i] b[k] = false := hc52; rw [h2] at h; cases h
        refine ⟨k, _, by omega, rfl, k, _, rfl, hs0, hs1, hs5, hs6', hs7, by show Value.int .i64 _ = _; congr 1 <;> omega, by omega, ?_, cx⟩
        intro j h1 h2
        rw [if_neg hEf] at hst
        by_cases hj : j = k
        · simp only [hj, if_pos]; omega
        · simp only [hj, if_neg]; exact hG j (by omega) h2
    · skip
      try simp only [Bool.and_eq_true, Bool.or_eq_true, Bool.and_eq_false_iff, Bool.or_eq_false_iff, Bool.not_eq_true', Bool.not_eq_false', decide_eq_true_eq, decide_eq_false_iff_not, beq_iff_eq, beq_eq_false_iff_ne, bne_iff_ne, bne_eq_false_iff_eq, ne_eq, Classical.not_not] at hc28
      obtain rfl : kk = 0 := by omega
      refine wp_exit ?_
      refine wp_region_lit ?_
      replace cx := cx.swap.dropR 1
      refine s_val rfl rfl (v_move rfl hs7) ?_
      refine s_val rfl rfl (v_assign rfl rfl) ?_
      refine wpList_nil ?_
      refine wp_region_lit ?_
      refine s_val rfl rfl (v_move rfl hs6') ?_
      refine s_val rfl rfl (v_sub rfl rfl rfl (by omega) (by omega)) ?_
      refine s_val rfl rfl (v_assign rfl rfl) ?_
      refine wpList_nil ?_
      exact ⟨i, _, by omega, rfl, i, G, g2, rfl, hs0, hs1, rfl, by show Value.int .i64 _ = _; congr 1 <;> omega, by omega, fun k hk => hG k (by omega) hk, cx⟩
  · skip
    try simp only [Bool.and_eq_true, Bool.or_eq_true, Bool.and_eq_false_iff, Bool.or_eq_false_iff, Bool.not_eq_true', Bool.not_eq_false', decide_eq_true_eq, decide_eq_false_iff_not, beq_iff_eq, beq_eq_false_iff_ne, bne_iff_ne, bne_eq_false_iff_eq, ne_eq, Classical.not_not] at hc17
    obtain rfl : ii = 0 := by omega
    have hF0 := hF 0 (by omega)
    refine wp_exit ?_
    refine wp_seq ?_
    refine wp_region_lit ?_
    refine s_val rfl rfl (v_move rfl hs5) ?_
    refine s_val rfl rfl (v_ia Try.underlying82 sz3 rfl rfl rfl (by omega) (by omega)) ?_
    refine s_val rfl rfl (v_load1 rfl rfl Try.underlying3 rfl ((cx.rowAt (List.mem_cons_self ..) (by omega)) _ _ ((mkI_at (t := 0) (by omega)).trans (by rw [hF0])))) ?_
    refine s_val rfl rfl (v_assign rfl rfl) ?_
    refine wpList_nil ?_
    refine wp_ret ?_
    refine ret_tmp Try.results28 rfl ?_
    exact ⟨cx.ext, _, rfl, rfl⟩
end Go.Proofs.Ytmkihcdcgkdilaa
