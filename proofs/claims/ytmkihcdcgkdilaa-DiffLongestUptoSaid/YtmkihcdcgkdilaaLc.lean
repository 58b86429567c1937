/-
  Contract: the law of longest common subsequences.
-/
import Derived.Test.YtmkihcdcgkdilaaLb
namespace Go.Proofs.Ytmkihcdcgkdilaa
open Go Go.Dk Go.RowKit
set_option linter.unusedSimpArgs false
set_option linter.unusedVariables false
attribute [local irreducible] Go.wpList Go.Code.wp Go.bodyPost Go.wpStill Go.wpQuiet
theorem common_prev (E : V → V → Bool) (a b : List V) {n p q : Nat} (h : (common E a b)[n]? = some (p, q)) : (p < a.length ∧ q < b.length ∧ E (a.getD p nulV) (b.getD q nulV) = true) ∧ ∃ p0 q0, 0 < n → (common E a b)[n - 1]? = some (p0, q0) ∧ p0 < p ∧ q0 < q := by
  obtain ⟨h1, h2, _⟩ := common_up E a b
  refine ⟨h1 (p, q) (List.mem_of_getElem? h), ?_⟩
  obtain ⟨hn, he⟩ := List.getElem?_eq_some_iff.1 h
  rcases Nat.eq_zero_or_pos n with h0 | h0
  · exact ⟨0, 0, fun h => by omega⟩
  · have := List.pairwise_iff_getElem.1 h2 (n - 1) n (by omega) hn (by omega)
    rw [he] at this
    exact ⟨_, _, fun _ => ⟨List.getElem?_eq_getElem (by omega), this⟩⟩
theorem classic_eqL : ∃ E : V → V → Bool, ∀ x y, E x y = true ↔ canon x = canon y := ⟨fun x y => @decide (canon x = canon y) (Classical.propDecidable _), fun x y => @decide_eq_true_iff _ (Classical.propDecidable _)⟩

set_option maxRecDepth 10000 in
set_option maxHeartbeats 6400000 in
theorem c6 (a b : List V) (s1 s2 : Value) (w0 : World) (hla : Lst w0 s1 a) (hlb : Lst w0 s2 b) (hna : a.length ≤ 1048576) (hnb : b.length ≤ 1048576) (hfa : ∀ x ∈ a, Fine x) (hfb : ∀ x ∈ b, Fine x) : Fc Try.prog 6 [s1, s2] w0 (IsB fun r => r = true) := by
  obtain ⟨E, hE⟩ := classic_eqL
  obtain ⟨a1, c1, b1, o1, rfl, hfa1, hget1⟩ := hla.open
  obtain ⟨a2, c2, b2, o2, rfl, hfa2, hget2⟩ := hlb.open
  refine ret_enter Try.func6 rfl Try.ntmps6 rfl ?_
  have cx := Ctx.start w0
  refine wp_seq ?_
  refine wp_region_lit ?_
  refine s_val rfl rfl (v_assign rfl rfl) ?_
  refine wpList_nil ?_
  refine wp_seq ?_
  refine wp_seq ?_
  refine wp_region_lit ?_
  refine s_val rfl rfl (v_move rfl rfl) ?_
  refine s_val rfl rfl (v_move rfl rfl) ?_
  refine s_fnB cx (c24 a b _ _ _ (hla.up cx.ext) (hlb.up cx.ext) (fine_list hna hfa) (fine_list hnb hfb)) Try.func24 rfl rfl rfl rfl rfl rfl ?_; intro q11 w cx hw11 hp11
  refine s_val rfl rfl (v_not rfl rfl) ?_
  refine s_val rfl rfl (v_move rfl rfl) ?_
  refine s_gval rfl rfl rfl (by first | exact w_ff rfl | exact w_gf rfl) (fun hc => v_move rfl (by first | exact gve hc rfl | exact gve (and_l hc) rfl | exact gve (and_l (and_l hc)) rfl | rfl)) ?_
  refine s_gval rfl rfl rfl (by first | exact w_ff rfl | exact w_gf rfl) (fun hc => v_lenSlice rfl (by first | exact gve hc rfl | exact gve (and_l hc) rfl | exact gve (and_l (and_l hc)) rfl | rfl) Try.underlying30) ?_
  refine s_gval rfl rfl rfl (by first | exact w_ff rfl | exact w_gf rfl) (fun hc => v_cmp rfl (by first | exact gve hc rfl | exact gve (and_l hc) rfl | exact gve (and_l (and_l hc)) rfl | rfl) rfl rfl) ?_
  refine s_val rfl rfl (v_or rfl rfl rfl rfl) ?_
  refine s_val rfl rfl (v_move rfl rfl) ?_
  refine s_gval rfl rfl rfl (by first | exact w_ff rfl | exact w_gf rfl) (fun hc => v_move rfl (by first | exact gve hc rfl | exact gve (and_l hc) rfl | exact gve (and_l (and_l hc)) rfl | rfl)) ?_
  refine s_gval rfl rfl rfl (by first | exact w_ff rfl | exact w_gf rfl) (fun hc => v_lenSlice rfl (by first | exact gve hc rfl | exact gve (and_l hc) rfl | exact gve (and_l (and_l hc)) rfl | rfl) Try.underlying30) ?_
  refine s_gval rfl rfl rfl (by first | exact w_ff rfl | exact w_gf rfl) (fun hc => v_cmp rfl (by first | exact gve hc rfl | exact gve (and_l hc) rfl | exact gve (and_l (and_l hc)) rfl | rfl) rfl rfl) ?_
  refine s_val rfl rfl (v_or rfl rfl rfl rfl) ?_
  refine wpList_nil ?_
  refine c_split rfl (fun hc22 => ?_) (fun hc22 => ?_)
  · skip
    try simp only [Bool.and_eq_true, Bool.or_eq_true, Bool.and_eq_false_iff, Bool.or_eq_false_iff, Bool.not_eq_true', Bool.not_eq_false', decide_eq_true_eq, decide_eq_false_iff_not, beq_iff_eq, beq_eq_false_iff_ne, bne_iff_ne, bne_eq_false_iff_eq, ne_eq, Classical.not_not] at hc22
    refine wp_seq ?_
    refine wp_region_lit ?_
    refine s_val rfl rfl (v_assign rfl rfl) ?_
    refine wpList_nil ?_
    refine wp_ret ?_
    refine ret_tmp Try.results6 rfl ?_
    exact ⟨cx.ext, _, rfl, rfl⟩
  · skip
    try simp only [Bool.and_eq_true, Bool.or_eq_true, Bool.and_eq_false_iff, Bool.or_eq_false_iff, Bool.not_eq_true', Bool.not_eq_false', decide_eq_true_eq, decide_eq_false_iff_not, beq_iff_eq, beq_eq_false_iff_ne, bne_iff_ne, bne_eq_false_iff_eq, ne_eq, Classical.not_not] at hc22
    obtain ⟨⟨h1, h2⟩, h3⟩ := hc22
    obtain ⟨⟨ha1, ha2, _⟩, ⟨hb1, hb2, _⟩⟩ := hp11 h1
    have hoa : ∀ x ∈ a, okd 48 x ∧ Fine x := fun x hx => ⟨ha1 x hx, hfa x hx⟩
    have hob : ∀ x ∈ b, okd 48 x ∧ Fine x := fun x hx => ⟨hb1 x hx, hfb x hx⟩
    have hcl := common_len E a b
    refine wp_skip ?_
    refine wp_seq ?_
    refine wp_region_lit ?_
    refine s_val rfl rfl (v_move rfl rfl) ?_
    refine s_val rfl rfl (v_move rfl rfl) ?_
    refine s_fn cx (c25 E hE a b _ _ _ (hla.up cx.ext) (hlb.up cx.ext) hoa hob (by omega) (by omega)) Try.func25 rfl rfl rfl rfl rfl rfl ?_; intro q25 w cx2 hw25 hp25
    obtain ⟨ap, cp, rfl, hrp⟩ := own_row hp25
    replace cx := cx.adopt hw25 hp25
    clear cx2 hp25
    refine s_val rfl rfl (v_assign rfl rfl) ?_
    refine wpList_nil ?_
    refine wp_seq ?_
    refine wp_seq ?_
    refine wp_region_lit ?_
    refine s_val rfl rfl (v_assign rfl rfl) ?_
    refine wpList_nil ?_
    refine wp_block ?_
    refine w_loop (fun k f w1 => ∃ n, k + n = (common E a b).length ∧ f 0 = .slice a1 a.length c1 ∧ f 1 = .slice a2 b.length c2 ∧ f 5 = .slice ap (common E a b).length cp ∧ f 6 = .int .i64 (n : Nat) ∧ Cxr w0 w1 [] [⟨43, 2, .slice ap (common E a b).length cp, (common E a b).length, (common E a b).flatMap qrow⟩]) ((common E a b).length) ?_ ?_
    · skip
      exact ⟨0, by omega, rfl, rfl, rfl, rfl, cx⟩
    intro gk5 f w hJ
    obtain ⟨n, hkn, hs0, hs1, hs5, hs6, cx⟩ := hJ
    refine wp_seq ?_
    refine wp_seq ?_
    refine wp_region_lit ?_
    refine s_val rfl rfl (v_move rfl hs6) ?_
    refine s_val rfl rfl (v_move rfl hs5) ?_
    refine s_val rfl rfl (v_lenSlice rfl rfl Try.underlying41) ?_
    refine s_val rfl rfl (v_cmp rfl rfl rfl rfl) ?_
    refine wpList_nil ?_
    refine c_split rfl (fun hc29 => ?_) (fun hc29 => ?_)
    · skip
      try simp only [Bool.and_eq_true, Bool.or_eq_true, Bool.and_eq_false_iff, Bool.or_eq_false_iff, Bool.not_eq_true', Bool.not_eq_false', decide_eq_true_eq, decide_eq_false_iff_not, beq_iff_eq, beq_eq_false_iff_ne, bne_iff_ne, bne_eq_false_iff_eq, ne_eq, Classical.not_not] at hc29
      have hnl : n < (common E a b).length := by omega
      obtain ⟨⟨p, q⟩, hmn⟩ : ∃ x, (common E a b)[n]? = some x := ⟨_, List.getElem?_eq_getElem hnl⟩
      obtain ⟨⟨hq1, hq2, hq3⟩, p0, q0, hprev⟩ := common_prev E a b hmn
      obtain ⟨gp, rfl, _⟩ := hrp (by omega)
      obtain rfl := hfa1 (by omega)
      obtain rfl := hfa2 (by omega)
      obtain ⟨r1, hr1⟩ := get_opt hget1 p
      obtain ⟨r2, hr2⟩ := get_opt hget2 q
      refine wp_skip ?_
      refine wp_seq ?_
      refine wp_block ?_
      refine wp_seq ?_
      refine w_quiet cx mixed (by kernel_rfl) ?_
      skip
      refine q_val rfl rfl (fun w cx hwQ => v_move rfl hs5) ?_
      refine q_val rfl rfl (fun w cx hwQ => v_move rfl hs6) ?_
      refine q_val rfl rfl (fun w cx hwQ => v_ia Try.underlying41 sz43 rfl rfl rfl (by omega) (by omega)) ?_
      refine q_val rfl rfl (fun w cx hwQ => v_iaR (r := 0 + n * 2) Try.underlying43 sz3 rfl rfl rfl (by omega) (by omega) (by rw [Int.toNat_natCast]; rfl)) ?_
      refine q_val rfl rfl (fun w cx hwQ => v_load1 rfl rfl Try.underlying3 rfl ((cx.rowAt (List.mem_cons_self ..) (by omega)) (n * 2) (.int .i64 (p : Int)) (qflat_at hmn).1)) ?_
      refine q_val rfl rfl (fun w cx hwQ => v_move rfl hs5) ?_
      refine q_val rfl rfl (fun w cx hwQ => v_move rfl hs6) ?_
      refine q_val rfl rfl (fun w cx hwQ => v_ia Try.underlying41 sz43 rfl rfl rfl (by omega) (by omega)) ?_
      refine q_val rfl rfl (fun w cx hwQ => v_iaR (r := 0 + (n * 2 + 1)) Try.underlying43 sz3 rfl rfl rfl (by omega) (by omega) (by rw [Int.toNat_natCast]; rfl)) ?_
      refine q_val rfl rfl (fun w cx hwQ => v_load1 rfl rfl Try.underlying3 rfl ((cx.rowAt (List.mem_cons_self ..) (by omega)) (n * 2 + 1) (.int .i64 (q : Int)) (qflat_at hmn).2)) ?_
      refine q_val rfl rfl (fun w cx hwQ => v_assign rfl rfl) ?_
      refine q_val rfl rfl (fun w cx hwQ => v_assign rfl rfl) ?_
      refine q_nil ?_; rintro w ⟨cx, hwQ7⟩
      refine wp_seq ?_
      refine w_quiet cx mixed (by kernel_rfl) ?_
      skip
      refine q_val rfl rfl (fun w cx hwQ => v_move rfl rfl) ?_
      refine q_val rfl rfl (fun w cx hwQ => v_cmp rfl rfl rfl (congrArg some (decide_eq_false (by omega)))) ?_
      refine q_val rfl rfl (fun w cx hwQ => v_move rfl rfl) ?_
      refine q_gval rfl rfl rfl (by first | exact w_ff rfl | exact w_gf rfl) (fun hc w cx hwQ => v_move rfl (by first | exact gve hc rfl | exact gve (and_l hc) rfl | exact gve (and_l (and_l hc)) rfl | rfl)) ?_
      refine q_gval rfl rfl rfl (by first | exact w_ff rfl | exact w_gf rfl) (fun hc w cx hwQ => v_cmp rfl (gve hc rfl) rfl (congrArg some (decide_eq_false (by omega)))) ?_
      refine q_val rfl rfl (fun w cx hwQ => v_or rfl rfl rfl rfl) ?_
      refine q_val rfl rfl (fun w cx hwQ => v_move rfl rfl) ?_
      refine q_gval rfl rfl rfl (by first | exact w_ff rfl | exact w_gf rfl) (fun hc w cx hwQ => v_move rfl (by first | exact gve hc rfl | exact gve (and_l hc) rfl | exact gve (and_l (and_l hc)) rfl | rfl)) ?_
      refine q_gval rfl rfl rfl (by first | exact w_ff rfl | exact w_gf rfl) (fun hc w cx hwQ => v_move rfl hs0) ?_
      refine q_gval rfl rfl rfl (by first | exact w_ff rfl | exact w_gf rfl) (fun hc w cx hwQ => v_lenSlice rfl (by first | exact gve hc rfl | exact gve (and_l hc) rfl | exact gve (and_l (and_l hc)) rfl | rfl) Try.underlying30) ?_
      refine q_gval rfl rfl rfl (by first | exact w_ff rfl | exact w_gf rfl) (fun hc w cx hwQ => v_cmp rfl (gve hc rfl) (gve hc rfl) (congrArg some (decide_eq_false (by omega)))) ?_
      refine q_val rfl rfl (fun w cx hwQ => v_or rfl rfl rfl rfl) ?_
      refine q_val rfl rfl (fun w cx hwQ => v_move rfl rfl) ?_
      refine q_gval rfl rfl rfl (by first | exact w_ff rfl | exact w_gf rfl) (fun hc w cx hwQ => v_move rfl (by first | exact gve hc rfl | exact gve (and_l hc) rfl | exact gve (and_l (and_l hc)) rfl | rfl)) ?_
      refine q_gval rfl rfl rfl (by first | exact w_ff rfl | exact w_gf rfl) (fun hc w cx hwQ => v_move rfl hs1) ?_
      refine q_gval rfl rfl rfl (by first | exact w_ff rfl | exact w_gf rfl) (fun hc w cx hwQ => v_lenSlice rfl (by first | exact gve hc rfl | exact gve (and_l hc) rfl | exact gve (and_l (and_l hc)) rfl | rfl) Try.underlying30) ?_
      refine q_gval rfl rfl rfl (by first | exact w_ff rfl | exact w_gf rfl) (fun hc w cx hwQ => v_cmp rfl (gve hc rfl) (gve hc rfl) (congrArg some (decide_eq_false (by omega)))) ?_
      refine q_val rfl rfl (fun w cx hwQ => v_or rfl rfl rfl rfl) ?_
      refine q_val rfl rfl (fun w cx hwQ => v_move rfl rfl) ?_
      refine q_gval rfl rfl rfl (by first | exact w_ff rfl | exact w_gf rfl) (fun hc w cx hwQ => v_move rfl hs0) ?_
      refine q_gval rfl rfl rfl (by first | exact w_ff rfl | exact w_gf rfl) (fun hc w cx hwQ => v_move rfl (by first | exact gve hc rfl | exact gve (and_l hc) rfl | exact gve (and_l (and_l hc)) rfl | rfl)) ?_
      refine q_gval rfl rfl rfl (by first | exact w_ff rfl | exact w_gf rfl) (fun hc w cx hwQ => v_ia Try.underlying30 sz33 rfl (gve hc rfl) (gve hc rfl) (by omega) (by omega)) ?_
      refine q_gval rfl rfl rfl (by first | exact w_ff rfl | exact w_gf rfl) (fun hc w cx hwQ => v_load rfl (gve hc rfl) Try.underlying33 rfl sz33 ((hr1 (by omega)).1.up cx.ext) (hr1 (by omega)).2.len) ?_
      refine q_gval rfl rfl rfl (by first | exact w_ff rfl | exact w_gf rfl) (fun hc w cx hwQ => v_move rfl hs1) ?_
      refine q_gval rfl rfl rfl (by first | exact w_ff rfl | exact w_gf rfl) (fun hc w cx hwQ => v_move rfl (by first | exact gve hc rfl | exact gve (and_l hc) rfl | exact gve (and_l (and_l hc)) rfl | rfl)) ?_
      refine q_gval rfl rfl rfl (by first | exact w_ff rfl | exact w_gf rfl) (fun hc w cx hwQ => v_ia Try.underlying30 sz33 rfl (gve hc rfl) (gve hc rfl) (by omega) (by omega)) ?_
      refine q_gval rfl rfl rfl (by first | exact w_ff rfl | exact w_gf rfl) (fun hc w cx hwQ => v_load rfl (gve hc rfl) Try.underlying33 rfl sz33 ((hr2 (by omega)).1.up cx.ext) (hr2 (by omega)).2.len) ?_
      refine q_gcall (v := .bool true) rfl rfl rfl (by first | exact w_ff rfl | exact w_gf rfl) (fun hc => runs_fn Try.func27 rfl rfl rfl (cons_eq (gve hc rfl) (cons_eq (gve hc rfl) rfl))) (fun hc w cx hwQ => (c27 _ _ _ _ _ (fine_getD hfa (k := p) (by omega)) (fine_getD hfb (k := q) (by omega)) ((hr1 (by omega)).2.up cx.ext) ((hr2 (by omega)).2.up cx.ext)).det (b0 := true) fun b hb => hb.2 ((hE _ _).1 hq3)) ?_
      refine q_gval rfl rfl rfl (by first | exact w_ff rfl | exact w_gf rfl) (fun hc w cx hwQ => v_not rfl (by first | exact gve hc rfl | exact gve (and_l hc) rfl | exact gve (and_l (and_l hc)) rfl | rfl)) ?_
      refine q_val rfl rfl (fun w cx hwQ => v_or rfl rfl rfl rfl) ?_
      refine q_val rfl rfl (fun w cx hwQ => v_move rfl rfl) ?_
      refine q_gval rfl rfl rfl (by first | exact w_ff rfl | exact w_gf rfl) (fun hc w cx hwQ => v_move rfl hs6) ?_
      refine q_gval rfl rfl rfl (by first | exact w_ff rfl | exact w_gf rfl) (fun hc w cx hwQ => v_cmp rfl (by first | exact gve hc rfl | exact gve (and_l hc) rfl | exact gve (and_l (and_l hc)) rfl | rfl) rfl rfl) ?_
      refine q_gval rfl rfl rfl (by first | exact w_ff rfl | exact w_gf rfl) (fun hc w cx hwQ => v_move rfl (by first | exact gve hc rfl | exact gve (and_l hc) rfl | exact gve (and_l (and_l hc)) rfl | rfl)) ?_
      refine q_gval rfl rfl rfl (by first | exact w_tt rfl | exact w_gt rfl) (fun hc w cx hwQ => v_move rfl hs5) ?_
      refine q_gval rfl rfl rfl (by first | exact w_tt rfl | exact w_gt rfl) (fun hc w cx hwQ => v_move rfl hs6) ?_
      refine q_gval rfl rfl rfl (by first | exact w_tt rfl | exact w_gt rfl) (fun hc w cx hwQ => (by have h0 : (0 : Int) < n := of_decide_eq_true (and_r hc); exact v_subQ rfl (gve hc rfl) rfl (r := ((n - 1 : Nat) : Int)) (by omega) (by omega) (by omega))) ?_
      refine q_gval rfl rfl rfl (by first | exact w_tt rfl | exact w_gt rfl) (fun hc w cx hwQ => (by have h0 : (0 : Int) < n := of_decide_eq_true (and_r hc); exact v_ia Try.underlying41 sz43 rfl (gve hc rfl) (gve hc rfl) (by omega) (by omega))) ?_
      refine q_gval rfl rfl rfl (by first | exact w_tt rfl | exact w_gt rfl) (fun hc w cx hwQ => (by have h0 : (0 : Int) < n := of_decide_eq_true (and_r hc); exact v_iaR (r := 0 + (n - 1) * 2) Try.underlying43 sz3 rfl (gve hc rfl) rfl (by omega) (by omega) (by rw [Int.toNat_natCast]; rfl))) ?_
      refine q_gval rfl rfl rfl (by first | exact w_tt rfl | exact w_gt rfl) (fun hc w cx hwQ => (by have h0 : (0 : Int) < n := of_decide_eq_true (and_r hc); exact v_load1 rfl (gve hc rfl) Try.underlying3 rfl ((cx.rowAt (List.mem_cons_self ..) (by omega)) ((n - 1) * 2) (.int .i64 (p0 : Int)) (qflat_at (hprev (by omega)).1).1))) ?_
      refine q_gval rfl rfl rfl (by first | exact w_tt rfl | exact w_gt rfl) (fun hc w cx hwQ => v_move rfl (by first | exact gve hc rfl | exact gve (and_l hc) rfl | exact gve (and_l (and_l hc)) rfl | rfl)) ?_
      refine q_gval rfl rfl rfl (by first | exact w_tt rfl | exact w_gt rfl) (fun hc w cx hwQ => (by have h0 : (0 : Int) < n := of_decide_eq_true (and_r hc); have h7 := hprev (by omega); exact v_cmp rfl (gve hc rfl) (gve hc rfl) (congrArg some (decide_eq_false (by omega))))) ?_
      refine q_gval rfl rfl rfl (by first | exact w_tt rfl | exact w_gt rfl) (fun hc w cx hwQ => v_move rfl (by first | exact gve hc rfl | exact gve (and_l hc) rfl | exact gve (and_l (and_l hc)) rfl | rfl)) ?_
      refine q_gval rfl rfl rfl (by first | exact w_ff rfl | exact w_gf rfl) (fun hc w cx hwQ => v_move rfl hs5) ?_
      refine q_gval rfl rfl rfl (by first | exact w_ff rfl | exact w_gf rfl) (fun hc w cx hwQ => v_move rfl hs6) ?_
      refine q_gval rfl rfl rfl (by first | exact w_ff rfl | exact w_gf rfl) (fun hc w cx hwQ => (by have h0 : (0 : Int) < n := of_decide_eq_true (and_r (and_l hc)); exact v_subQ rfl (gve hc rfl) rfl (r := ((n - 1 : Nat) : Int)) (by omega) (by omega) (by omega))) ?_
      refine q_gval rfl rfl rfl (by first | exact w_ff rfl | exact w_gf rfl) (fun hc w cx hwQ => (by have h0 : (0 : Int) < n := of_decide_eq_true (and_r (and_l hc)); exact v_ia Try.underlying41 sz43 rfl (gve hc rfl) (gve hc rfl) (by omega) (by omega))) ?_
      refine q_gval rfl rfl rfl (by first | exact w_ff rfl | exact w_gf rfl) (fun hc w cx hwQ => (by have h0 : (0 : Int) < n := of_decide_eq_true (and_r (and_l hc)); exact v_iaR (r := 0 + ((n - 1) * 2 + 1)) Try.underlying43 sz3 rfl (gve hc rfl) rfl (by omega) (by omega) (by rw [Int.toNat_natCast]; rfl))) ?_
      refine q_gval rfl rfl rfl (by first | exact w_ff rfl | exact w_gf rfl) (fun hc w cx hwQ => (by have h0 : (0 : Int) < n := of_decide_eq_true (and_r (and_l hc)); exact v_load1 rfl (gve hc rfl) Try.underlying3 rfl ((cx.rowAt (List.mem_cons_self ..) (by omega)) (((n - 1) * 2 + 1)) (.int .i64 (q0 : Int)) (qflat_at (hprev (by omega)).1).2))) ?_
      refine q_gval rfl rfl rfl (by first | exact w_ff rfl | exact w_gf rfl) (fun hc w cx hwQ => v_move rfl (by first | exact gve hc rfl | exact gve (and_l hc) rfl | exact gve (and_l (and_l hc)) rfl | rfl)) ?_
      refine q_gval rfl rfl rfl (by first | exact w_ff rfl | exact w_gf rfl) (fun hc w cx hwQ => (by have h0 : (0 : Int) < n := of_decide_eq_true (and_r (and_l hc)); have h7 := hprev (by omega); exact v_cmp rfl (gve hc rfl) (gve hc rfl) (congrArg some (decide_eq_false (by omega))))) ?_
      refine q_gval rfl rfl rfl (by first | exact w_tt rfl | exact w_gt rfl) (fun hc w cx hwQ => v_or_g hc rfl rfl rfl rfl) ?_
      refine q_gval rfl rfl rfl (by first | exact w_ff rfl | exact w_gf rfl) (fun hc w cx hwQ => v_and_g hc rfl rfl rfl rfl) ?_
      refine q_val rfl rfl (fun w cx hwQ => v_or rfl rfl rfl rfl) ?_
      refine q_nil ?_; rintro w ⟨cx, hwQ8⟩
      refine c_split rfl (fun hc95 => ?_) (fun hc95 => ?_)
      · skip
        exfalso; revert hc95; simp
      · skip
        skip
        refine wp_skip ?_
        refine wp_region_lit ?_
        refine s_val rfl rfl (v_move rfl hs6) ?_
        refine s_val rfl rfl (v_add rfl rfl rfl (by omega) (by omega)) ?_
        refine s_val rfl rfl (v_assign rfl rfl) ?_
        refine wpList_nil ?_
        exact ⟨gk5 - 1, _, by omega, rfl, n + 1, by omega, hs0, hs1, hs5, rfl, cx⟩
    · skip
      try simp only [Bool.and_eq_true, Bool.or_eq_true, Bool.and_eq_false_iff, Bool.or_eq_false_iff, Bool.not_eq_true', Bool.not_eq_false', decide_eq_true_eq, decide_eq_false_iff_not, beq_iff_eq, beq_eq_false_iff_ne, bne_iff_ne, bne_eq_false_iff_eq, ne_eq, Classical.not_not] at hc29
      refine wp_exit ?_
      refine wp_seq ?_
      refine wp_region_lit ?_
      refine s_val rfl rfl (v_move rfl hs5) ?_
      refine s_val rfl rfl (v_lenSlice rfl rfl Try.underlying41) ?_
      refine s_val rfl rfl (v_move rfl hs0) ?_
      refine s_val rfl rfl (v_move rfl hs1) ?_
      refine s_fnI cx (c28 E hE a b _ _ _ (hla.up cx.ext) (hlb.up cx.ext) hfa hfb (by omega) (by omega)) Try.func28 rfl rfl rfl rfl rfl rfl ?_; intro q100 w cx hw100 hp100
      refine s_val rfl rfl (v_cmp rfl rfl rfl rfl) ?_
      refine s_val rfl rfl (v_assign rfl rfl) ?_
      refine wpList_nil ?_
      refine wp_ret ?_
      refine ret_tmp Try.results6 rfl ?_
      exact ⟨cx.ext, _, rfl, by rw [hp100, (common_up E a b).2.2]; exact beq_self_eq_true _⟩
end Go.Proofs.Ytmkihcdcgkdilaa
