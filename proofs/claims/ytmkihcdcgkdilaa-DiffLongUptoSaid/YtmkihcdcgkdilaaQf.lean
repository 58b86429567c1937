/-
  Contracts: common elements, of the program.
-/
import Derived.Test.YtmkihcdcgkdilaaQe
namespace Go.Proofs.Ytmkihcdcgkdilaa
open Go Go.Dk Go.RowKit
set_option linter.unusedSimpArgs false
set_option linter.unusedVariables false
attribute [local irreducible] Go.wpList Go.Code.wp Go.bodyPost Go.wpStill Go.wpQuiet
set_option maxRecDepth 10000 in
theorem el30 : Try.prog.underlying 30 = some (.slice (Try.prog.elem 30)) := Try.underlying30
set_option maxRecDepth 10000 in
theorem es30 : (Try.prog.info? (Try.prog.elem 30)).map (·.size) = some 13 := sz33

set_option maxRecDepth 10000 in
set_option maxHeartbeats 6400000 in
theorem c25 (E : V → V → Bool) (hE : ∀ x y, E x y = true ↔ canon x = canon y) (a b : List V) (s1 s2 : Value) (w0 : World) (hla : Lst w0 s1 a) (hlb : Lst w0 s2 b) (hoa : ∀ x ∈ a, okd 48 x ∧ Fine x) (hob : ∀ x ∈ b, okd 48 x ∧ Fine x) (hna : a.length ≤ 6000) (hnb : b.length ≤ 6000) (hnm : a.length * b.length ≤ 40000) : Fc Try.prog 25 [s1, s2] w0 (fun x w' => w'.ownsRow w0.heap.size 43 2 x (common E a b).length ((common E a b).flatMap qrow)) := by
  obtain ⟨a1, c1, b1, o1, rfl, hfa1, hget1⟩ := hla.open
  obtain ⟨a2, c2, b2, o2, rfl, hfa2, hget2⟩ := hlb.open
  obtain ⟨P, hPd⟩ : ∃ P, P = nPre E a b := ⟨_, rfl⟩
  obtain ⟨S, hSd⟩ : ∃ S, S = nSuf E a b := ⟨_, rfl⟩
  have hPa := nPre_a E a b
  have hPb := nPre_b E a b
  have hSa := nSuf_a E a b
  have hSb := nSuf_b E a b
  have hMd : sel E (midL a P S) (midL b P S) (midL a P S).length 0 0 = mids E a b := by rw [hPd, hSd]; rfl
  have hP0 : upw (qPre E a b) (a.length - 0) 0 = P := hPd.symm
  have hS0 : upw (qSuf E a b P) (a.length - P - 0) 0 = S := by rw [hSd, hPd]; rfl
  have hCd : common E a b = diag P ++ ((mids E a b).map fun q => (P + q.1, P + q.2)) ++ ends a.length b.length S S := by rw [hPd, hSd]; rfl
  rw [← hPd] at hPa hPb hSa hSb
  rw [← hSd] at hSa hSb
  have hlA : (midL a P S).length + S + P = a.length := by rw [midL_len hSa]; omega
  have hlB : (midL b P S).length + S + P = b.length := by rw [midL_len hSb]; omega
  replace hSa : P + S ≤ a.length := by omega
  replace hSb : P + S ≤ b.length := by omega
  have hMl := sel_len E (midL a P S) (midL b P S) (midL a P S).length 0 0
  rw [hMd] at hMl
  have hM2 : (mids E a b).length ≤ 6000 := Nat.le_trans hMl (by omega)
  have hMl4 : P + (mids E a b).length ≤ 12000 := Nat.add_le_add (show P ≤ 6000 by omega) hM2
  clear hMl
  refine ret_enter Try.func25 rfl Try.ntmps25 rfl ?_
  have cx := Ctx.start w0
  refine wp_seq ?_
  refine wp_region_lit ?_
  refine s_val rfl rfl (v_assign rfl rfl) ?_
  refine wpList_nil ?_
  refine wp_seq ?_
  refine wp_region_lit ?_
  refine s_val rfl rfl (v_assign rfl rfl) ?_
  refine wpList_nil ?_
  refine wp_seq ?_
  refine wp_block ?_
  refine w_loop (fun k f w1 => ∃ p, k + p = a.length ∧ f 0 = .slice a1 a.length c1 ∧ f 1 = .slice a2 b.length c2 ∧ f 5 = .int .i64 (p : Nat) ∧ p ≤ b.length ∧ upw (qPre E a b) (a.length - p) p = P ∧ Cxr w0 w1 [] []) (a.length) ?_ ?_
  · skip
    exact ⟨0, by omega, rfl, rfl, rfl, by omega, hP0, cx⟩
  intro gk2 f w hJ
  obtain ⟨p, hki, hs0, hs1, hs5, hpb, hup, cx⟩ := hJ
  obtain ⟨r1, hr1⟩ := get_opt hget1 p
  obtain ⟨r2, hr2⟩ := get_opt hget2 p
  refine wp_seq ?_
  refine wp_seq ?_
  refine w_quiet cx mixed (by kernel_rfl) ?_
  skip
  refine q_val rfl rfl (fun w cx hwQ => v_move rfl hs5) ?_
  refine q_val rfl rfl (fun w cx hwQ => v_move rfl hs0) ?_
  refine q_val rfl rfl (fun w cx hwQ => v_lenSlice rfl rfl Try.underlying30) ?_
  refine q_val rfl rfl (fun w cx hwQ => v_cmp rfl rfl rfl rfl) ?_
  refine q_val rfl rfl (fun w cx hwQ => v_move rfl rfl) ?_
  refine q_gval rfl rfl rfl (by first | exact w_tt rfl | exact w_gt rfl) (fun hc w cx hwQ => v_move rfl hs5) ?_
  refine q_gval rfl rfl rfl (by first | exact w_tt rfl | exact w_gt rfl) (fun hc w cx hwQ => v_move rfl hs1) ?_
  refine q_gval rfl rfl rfl (by first | exact w_tt rfl | exact w_gt rfl) (fun hc w cx hwQ => v_lenSlice rfl (by first | exact gve hc rfl | exact gve (and_l hc) rfl | exact gve (and_l (and_l hc)) rfl | rfl) Try.underlying30) ?_
  refine q_gval rfl rfl rfl (by first | exact w_tt rfl | exact w_gt rfl) (fun hc w cx hwQ => v_cmp rfl (by first | exact gve hc rfl | exact gve (and_l hc) rfl | exact gve (and_l (and_l hc)) rfl | rfl) (by first | exact gve hc rfl | exact gve (and_l hc) rfl | exact gve (and_l (and_l hc)) rfl | rfl) rfl) ?_
  refine q_val rfl rfl (fun w cx hwQ => v_and rfl rfl rfl rfl) ?_
  refine q_val rfl rfl (fun w cx hwQ => v_move rfl rfl) ?_
  refine q_gval rfl rfl rfl (by first | exact w_tt rfl | exact w_gt rfl) (fun hc w cx hwQ => v_move rfl hs0) ?_
  refine q_gval rfl rfl rfl (by first | exact w_tt rfl | exact w_gt rfl) (fun hc w cx hwQ => v_move rfl hs5) ?_
  refine q_gval rfl rfl rfl (by first | exact w_tt rfl | exact w_gt rfl) (fun hc w cx hwQ => (by obtain ⟨h1, h2⟩ := (by simpa only [Bool.and_eq_true, decide_eq_true_eq] using hc : (p : Int) < (a.length : Int) ∧ (p : Int) < (b.length : Int)); exact v_ia Try.underlying30 sz33 rfl (Eq.trans (gve hc rfl) (by rw [hfa1 (by omega)])) (gve hc rfl) (by omega) (by omega))) ?_
  refine q_gval rfl rfl rfl (by first | exact w_tt rfl | exact w_gt rfl) (fun hc w cx hwQ => (by obtain ⟨h1, h2⟩ := (by simpa only [Bool.and_eq_true, decide_eq_true_eq] using hc : (p : Int) < (a.length : Int) ∧ (p : Int) < (b.length : Int)); exact v_load rfl (gve hc rfl) Try.underlying33 rfl sz33 ((hr1 (by omega)).1.up cx.ext) (hr1 (by omega)).2.len)) ?_
  refine q_gval rfl rfl rfl (by first | exact w_tt rfl | exact w_gt rfl) (fun hc w cx hwQ => v_move rfl hs1) ?_
  refine q_gval rfl rfl rfl (by first | exact w_tt rfl | exact w_gt rfl) (fun hc w cx hwQ => v_move rfl hs5) ?_
  refine q_gval rfl rfl rfl (by first | exact w_tt rfl | exact w_gt rfl) (fun hc w cx hwQ => (by obtain ⟨h1, h2⟩ := (by simpa only [Bool.and_eq_true, decide_eq_true_eq] using hc : (p : Int) < (a.length : Int) ∧ (p : Int) < (b.length : Int)); exact v_ia Try.underlying30 sz33 rfl (Eq.trans (gve hc rfl) (by rw [hfa2 (by omega)])) (gve hc rfl) (by omega) (by omega))) ?_
  refine q_gval rfl rfl rfl (by first | exact w_tt rfl | exact w_gt rfl) (fun hc w cx hwQ => (by obtain ⟨h1, h2⟩ := (by simpa only [Bool.and_eq_true, decide_eq_true_eq] using hc : (p : Int) < (a.length : Int) ∧ (p : Int) < (b.length : Int)); exact v_load rfl (gve hc rfl) Try.underlying33 rfl sz33 ((hr2 (by omega)).1.up cx.ext) (hr2 (by omega)).2.len)) ?_
  refine q_gcall (v := .bool (E (a.getD p nulV) (b.getD p nulV))) rfl rfl rfl (by first | exact w_tt rfl | exact w_gt rfl) (fun hc => runs_fn Try.func53 rfl rfl rfl (cons_eq (gve hc rfl) (cons_eq (gve hc rfl) rfl))) (fun hc w cx hwQ => by obtain ⟨h1, h2⟩ := (by simpa only [Bool.and_eq_true, decide_eq_true_eq] using hc : (p : Int) < (a.length : Int) ∧ (p : Int) < (b.length : Int)); exact (c53 48 _ _ _ _ _ (by omega) (fine_getD hoa (k := p) (by omega)).1 (fine_getD hob (k := p) (by omega)).1 (fine_getD hoa (k := p) (by omega)).2 (fine_getD hob (k := p) (by omega)).2 ((hr1 (by omega)).2.up cx.ext) ((hr2 (by omega)).2.up cx.ext)).det fun b hb => Bool.eq_iff_iff.2 (hb.trans (hE _ _).symm)) ?_
  refine q_val rfl rfl (fun w cx hwQ => v_and rfl rfl rfl rfl) ?_
  refine q_nil ?_; rintro w ⟨cx, hwQ2⟩
  refine c_split rfl (fun hc30 => ?_) (fun hc30 => ?_)
  · skip
    skip
    simp only [Bool.and_eq_true, decide_eq_true_eq] at hc30
    obtain ⟨⟨h1, h2⟩, h3⟩ := hc30
    have hq : qPre E a b p = true := by unfold qPre; rw [decide_eq_true (by omega), h3]; rfl
    rw [show a.length - p = (a.length - (p + 1)) + 1 by omega, upw_yes hq] at hup
    refine wp_skip ?_
    refine wp_block ?_
    refine wp_region_lit ?_
    refine s_val rfl rfl (v_move rfl hs5) ?_
    refine s_val rfl rfl (v_add rfl rfl rfl (by omega) (by omega)) ?_
    refine s_val rfl rfl (v_assign rfl rfl) ?_
    refine wpList_nil ?_
    exact ⟨gk2 - 1, _, by omega, rfl, p + 1, by omega, hs0, hs1, rfl, by omega, hup, cx⟩
  · skip
    skip
    simp only [Bool.and_eq_false_iff, decide_eq_false_iff_not] at hc30
    obtain rfl : P = p := by
      rw [← hup]
      refine upw_no ?_
      rcases hc30 with (h | h) | h
      · left; omega
      · right; unfold qPre; rw [decide_eq_false (by omega)]; rfl
      · right; unfold qPre; rw [h, Bool.and_false]
    clear hc30 hup
    refine wp_exit ?_
    refine wp_seq ?_
    refine wp_region_lit ?_
    refine s_val rfl rfl (v_assign rfl rfl) ?_
    refine wpList_nil ?_
    refine wp_seq ?_
    refine wp_block ?_
    refine w_loop (fun k f w1 => ∃ s, k + s = a.length - P ∧ f 0 = .slice a1 a.length c1 ∧ f 1 = .slice a2 b.length c2 ∧ f 5 = .int .i64 (P : Nat) ∧ f 6 = .int .i64 (s : Nat) ∧ s ≤ b.length - P ∧ upw (qSuf E a b P) (a.length - P - s) s = S ∧ Cxr w0 w1 [] []) (a.length - P) ?_ ?_
    · skip
      exact ⟨0, by omega, hs0, hs1, hs5, rfl, by omega, hS0, cx⟩
    intro gk5 f w hJ
    obtain ⟨s, hks, hs0, hs1, hs5, hs6, hsb, hup, cx⟩ := hJ
    obtain ⟨r1, hr1⟩ := get_opt hget1 (a.length - 1 - s)
    obtain ⟨r2, hr2⟩ := get_opt hget2 (b.length - 1 - s)
    refine wp_seq ?_
    refine wp_seq ?_
    refine w_quiet cx mixed (by kernel_rfl) ?_
    skip
    refine q_val rfl rfl (fun w cx hwQ => v_move rfl hs6) ?_
    refine q_val rfl rfl (fun w cx hwQ => v_move rfl hs0) ?_
    refine q_val rfl rfl (fun w cx hwQ => v_lenSlice rfl rfl Try.underlying30) ?_
    refine q_val rfl rfl (fun w cx hwQ => v_move rfl hs5) ?_
    refine q_val rfl rfl (fun w cx hwQ => v_sub rfl rfl rfl (by omega) (by omega)) ?_
    refine q_val rfl rfl (fun w cx hwQ => v_cmp rfl rfl rfl rfl) ?_
    refine q_val rfl rfl (fun w cx hwQ => v_move rfl rfl) ?_
    refine q_gval rfl rfl rfl (by first | exact w_tt rfl | exact w_gt rfl) (fun hc w cx hwQ => v_move rfl hs6) ?_
    refine q_gval rfl rfl rfl (by first | exact w_tt rfl | exact w_gt rfl) (fun hc w cx hwQ => v_move rfl hs1) ?_
    refine q_gval rfl rfl rfl (by first | exact w_tt rfl | exact w_gt rfl) (fun hc w cx hwQ => v_lenSlice rfl (by first | exact gve hc rfl | exact gve (and_l hc) rfl | exact gve (and_l (and_l hc)) rfl | rfl) Try.underlying30) ?_
    refine q_gval rfl rfl rfl (by first | exact w_tt rfl | exact w_gt rfl) (fun hc w cx hwQ => v_move rfl hs5) ?_
    refine q_gval rfl rfl rfl (by first | exact w_tt rfl | exact w_gt rfl) (fun hc w cx hwQ => v_sub rfl (by first | exact gve hc rfl | exact gve (and_l hc) rfl | exact gve (and_l (and_l hc)) rfl | rfl) (by first | exact gve hc rfl | exact gve (and_l hc) rfl | exact gve (and_l (and_l hc)) rfl | rfl) (by first | omega | (simp only [Bool.and_eq_true, Bool.or_eq_true, Bool.and_eq_false_iff, Bool.or_eq_false_iff, Bool.not_eq_true', Bool.not_eq_false', decide_eq_true_eq, decide_eq_false_iff_not, beq_iff_eq, beq_eq_false_iff_ne, bne_iff_ne, bne_eq_false_iff_eq, ne_eq, Classical.not_not] at hc; omega)) (by first | omega | (simp only [Bool.and_eq_true, Bool.or_eq_true, Bool.and_eq_false_iff, Bool.or_eq_false_iff, Bool.not_eq_true', Bool.not_eq_false', decide_eq_true_eq, decide_eq_false_iff_not, beq_iff_eq, beq_eq_false_iff_ne, bne_iff_ne, bne_eq_false_iff_eq, ne_eq, Classical.not_not] at hc; omega))) ?_
    refine q_gval rfl rfl rfl (by first | exact w_tt rfl | exact w_gt rfl) (fun hc w cx hwQ => v_cmp rfl (by first | exact gve hc rfl | exact gve (and_l hc) rfl | exact gve (and_l (and_l hc)) rfl | rfl) (by first | exact gve hc rfl | exact gve (and_l hc) rfl | exact gve (and_l (and_l hc)) rfl | rfl) rfl) ?_
    refine q_val rfl rfl (fun w cx hwQ => v_and rfl rfl rfl rfl) ?_
    refine q_val rfl rfl (fun w cx hwQ => v_move rfl rfl) ?_
    refine q_gval rfl rfl rfl (by first | exact w_tt rfl | exact w_gt rfl) (fun hc w cx hwQ => v_move rfl hs0) ?_
    refine q_gval rfl rfl rfl (by first | exact w_tt rfl | exact w_gt rfl) (fun hc w cx hwQ => v_move rfl hs0) ?_
    refine q_gval rfl rfl rfl (by first | exact w_tt rfl | exact w_gt rfl) (fun hc w cx hwQ => v_lenSlice rfl (by first | exact gve hc rfl | exact gve (and_l hc) rfl | exact gve (and_l (and_l hc)) rfl | rfl) Try.underlying30) ?_
    refine q_gval rfl rfl rfl (by first | exact w_tt rfl | exact w_gt rfl) (fun hc w cx hwQ => (by obtain ⟨h1, h2⟩ := (by simpa only [Bool.and_eq_true, decide_eq_true_eq] using hc : (s : Int) < (a.length : Int) - (P : Int) ∧ (s : Int) < (b.length : Int) - (P : Int)); exact v_subQ rfl (gve hc rfl) rfl (r := ((a.length - 1 : Nat) : Int)) (by omega) (by omega) (by omega))) ?_
    refine q_gval rfl rfl rfl (by first | exact w_tt rfl | exact w_gt rfl) (fun hc w cx hwQ => v_move rfl hs6) ?_
    refine q_gval rfl rfl rfl (by first | exact w_tt rfl | exact w_gt rfl) (fun hc w cx hwQ => (by obtain ⟨h1, h2⟩ := (by simpa only [Bool.and_eq_true, decide_eq_true_eq] using hc : (s : Int) < (a.length : Int) - (P : Int) ∧ (s : Int) < (b.length : Int) - (P : Int)); exact v_subQ rfl (gve hc rfl) (gve hc rfl) (r := ((a.length - 1 - s : Nat) : Int)) (by omega) (by omega) (by omega))) ?_
    refine q_gval rfl rfl rfl (by first | exact w_tt rfl | exact w_gt rfl) (fun hc w cx hwQ => (by obtain ⟨h1, h2⟩ := (by simpa only [Bool.and_eq_true, decide_eq_true_eq] using hc : (s : Int) < (a.length : Int) - (P : Int) ∧ (s : Int) < (b.length : Int) - (P : Int)); exact v_ia Try.underlying30 sz33 rfl (Eq.trans (gve hc rfl) (by rw [hfa1 (by omega)])) (gve hc rfl) (by omega) (by omega))) ?_
    refine q_gval rfl rfl rfl (by first | exact w_tt rfl | exact w_gt rfl) (fun hc w cx hwQ => (by obtain ⟨h1, h2⟩ := (by simpa only [Bool.and_eq_true, decide_eq_true_eq] using hc : (s : Int) < (a.length : Int) - (P : Int) ∧ (s : Int) < (b.length : Int) - (P : Int)); exact v_load rfl (gve hc rfl) Try.underlying33 rfl sz33 ((hr1 (by omega)).1.up cx.ext) (hr1 (by omega)).2.len)) ?_
    refine q_gval rfl rfl rfl (by first | exact w_tt rfl | exact w_gt rfl) (fun hc w cx hwQ => v_move rfl hs1) ?_
    refine q_gval rfl rfl rfl (by first | exact w_tt rfl | exact w_gt rfl) (fun hc w cx hwQ => v_move rfl hs1) ?_
    refine q_gval rfl rfl rfl (by first | exact w_tt rfl | exact w_gt rfl) (fun hc w cx hwQ => v_lenSlice rfl (by first | exact gve hc rfl | exact gve (and_l hc) rfl | exact gve (and_l (and_l hc)) rfl | rfl) Try.underlying30) ?_
    refine q_gval rfl rfl rfl (by first | exact w_tt rfl | exact w_gt rfl) (fun hc w cx hwQ => (by obtain ⟨h1, h2⟩ := (by simpa only [Bool.and_eq_true, decide_eq_true_eq] using hc : (s : Int) < (a.length : Int) - (P : Int) ∧ (s : Int) < (b.length : Int) - (P : Int)); exact v_subQ rfl (gve hc rfl) rfl (r := ((b.length - 1 : Nat) : Int)) (by omega) (by omega) (by omega))) ?_
    refine q_gval rfl rfl rfl (by first | exact w_tt rfl | exact w_gt rfl) (fun hc w cx hwQ => v_move rfl hs6) ?_
    refine q_gval rfl rfl rfl (by first | exact w_tt rfl | exact w_gt rfl) (fun hc w cx hwQ => (by obtain ⟨h1, h2⟩ := (by simpa only [Bool.and_eq_true, decide_eq_true_eq] using hc : (s : Int) < (a.length : Int) - (P : Int) ∧ (s : Int) < (b.length : Int) - (P : Int)); exact v_subQ rfl (gve hc rfl) (gve hc rfl) (r := ((b.length - 1 - s : Nat) : Int)) (by omega) (by omega) (by omega))) ?_
    refine q_gval rfl rfl rfl (by first | exact w_tt rfl | exact w_gt rfl) (fun hc w cx hwQ => (by obtain ⟨h1, h2⟩ := (by simpa only [Bool.and_eq_true, decide_eq_true_eq] using hc : (s : Int) < (a.length : Int) - (P : Int) ∧ (s : Int) < (b.length : Int) - (P : Int)); exact v_ia Try.underlying30 sz33 rfl (Eq.trans (gve hc rfl) (by rw [hfa2 (by omega)])) (gve hc rfl) (by omega) (by omega))) ?_
    refine q_gval rfl rfl rfl (by first | exact w_tt rfl | exact w_gt rfl) (fun hc w cx hwQ => (by obtain ⟨h1, h2⟩ := (by simpa only [Bool.and_eq_true, decide_eq_true_eq] using hc : (s : Int) < (a.length : Int) - (P : Int) ∧ (s : Int) < (b.length : Int) - (P : Int)); exact v_load rfl (gve hc rfl) Try.underlying33 rfl sz33 ((hr2 (by omega)).1.up cx.ext) (hr2 (by omega)).2.len)) ?_
    refine q_gcall (v := .bool (E (a.getD (a.length - 1 - s) nulV) (b.getD (b.length - 1 - s) nulV))) rfl rfl rfl (by first | exact w_tt rfl | exact w_gt rfl) (fun hc => runs_fn Try.func53 rfl rfl rfl (cons_eq (gve hc rfl) (cons_eq (gve hc rfl) rfl))) (fun hc w cx hwQ => by obtain ⟨h1, h2⟩ := (by simpa only [Bool.and_eq_true, decide_eq_true_eq] using hc : (s : Int) < (a.length : Int) - (P : Int) ∧ (s : Int) < (b.length : Int) - (P : Int)); exact (c53 48 _ _ _ _ _ (by omega) (fine_getD hoa (k := (a.length - 1 - s)) (by omega)).1 (fine_getD hob (k := (b.length - 1 - s)) (by omega)).1 (fine_getD hoa (k := (a.length - 1 - s)) (by omega)).2 (fine_getD hob (k := (b.length - 1 - s)) (by omega)).2 ((hr1 (by omega)).2.up cx.ext) ((hr2 (by omega)).2.up cx.ext)).det fun b hb => Bool.eq_iff_iff.2 (hb.trans (hE _ _).symm)) ?_
    refine q_val rfl rfl (fun w cx hwQ => v_and rfl rfl rfl rfl) ?_
    refine q_nil ?_; rintro w ⟨cx, hwQ5⟩
    refine c_split rfl (fun hc65 => ?_) (fun hc65 => ?_)
    · skip
      skip
      simp only [Bool.and_eq_true, decide_eq_true_eq] at hc65
      obtain ⟨⟨h1, h2⟩, h3⟩ := hc65
      have hq : qSuf E a b P s = true := by unfold qSuf; rw [decide_eq_true (by omega), h3]; rfl
      rw [show a.length - P - s = (a.length - P - (s + 1)) + 1 by omega, upw_yes hq] at hup
      refine wp_skip ?_
      refine wp_block ?_
      refine wp_region_lit ?_
      refine s_val rfl rfl (v_move rfl hs6) ?_
      refine s_val rfl rfl (v_add rfl rfl rfl (by omega) (by omega)) ?_
      refine s_val rfl rfl (v_assign rfl rfl) ?_
      refine wpList_nil ?_
      exact ⟨gk5 - 1, _, by omega, rfl, s + 1, by omega, hs0, hs1, hs5, rfl, by omega, hup, cx⟩
    · skip
      skip
      simp only [Bool.and_eq_false_iff, decide_eq_false_iff_not] at hc65
      obtain rfl : S = s := by
        rw [← hup]
        refine upw_no ?_
        rcases hc65 with (h | h) | h
        · left; omega
        · right; unfold qSuf; rw [decide_eq_false (by omega)]; rfl
        · right; unfold qSuf; rw [h, Bool.and_false]
      clear hc65 hup
      refine wp_exit ?_
      refine wp_seq ?_
      refine wp_region_lit ?_
      refine s_val rfl rfl (v_assign rfl rfl) ?_
      refine wpList_nil ?_
      refine wp_seq ?_
      refine wp_seq ?_
      refine wp_region_lit ?_
      replace cx := cx.nilRow 43 2
      refine s_val rfl rfl (v_move rfl hs5) ?_
      refine s_val rfl rfl (v_move rfl rfl) ?_
      refine wpList_nil ?_
      refine wp_block ?_
      refine w_loop (fun k f w1 => ∃ n x, k + n = P ∧ f 0 = .slice a1 a.length c1 ∧ f 1 = .slice a2 b.length c2 ∧ f 5 = .int .i64 (P : Nat) ∧ f 6 = .int .i64 (S : Nat) ∧ f 7 = x ∧ f 68 = .int .i64 (P : Nat) ∧ f 69 = .int .i64 (n : Nat) ∧ Cxr w0 w1 [] [⟨43, 2, x, (diag n).length, (diag n).flatMap qrow⟩]) (P) ?_ ?_
      · skip
        exact ⟨0, _, by omega, hs0, hs1, hs5, hs6, rfl, rfl, rfl, cx⟩
      intro gk9 f w hJ
      obtain ⟨n, x, hkn, hs0, hs1, hs5, hs6, hs7, hs68, hs69, cx⟩ := hJ
      have hdl := diag_len n
      refine wp_seq ?_
      refine wp_region_lit ?_
      refine s_val rfl rfl (v_cmp rfl hs69 hs68 rfl) ?_
      refine wpList_nil ?_
      refine wp_seq ?_
      refine c_split rfl (fun hc70 => ?_) (fun hc70 => ?_)
      · skip
        try simp only [Bool.and_eq_true, Bool.or_eq_true, Bool.and_eq_false_iff, Bool.or_eq_false_iff, Bool.not_eq_true', Bool.not_eq_false', decide_eq_true_eq, decide_eq_false_iff_not, beq_iff_eq, beq_eq_false_iff_ne, bne_iff_ne, bne_eq_false_iff_eq, ne_eq, Classical.not_not] at hc70
        refine wp_skip ?_
        refine wp_seq ?_
        refine wp_block ?_
        refine wp_seq ?_
        refine wp_region_lit ?_
        refine s_val rfl rfl (v_move rfl hs69) ?_
        refine s_val rfl rfl (v_assign rfl rfl) ?_
        refine wpList_nil ?_
        refine wp_region_lit ?_
        refine s_val rfl rfl (v_move rfl hs7) ?_
        refine s_val rfl rfl (v_move rfl rfl) ?_
        refine s_val rfl rfl (v_move rfl rfl) ?_
        refine s_val rfl rfl (v_build (bd43 _ _) rfl rfl) ?_
        refine s_bsl1 cx Try.underlying41 sz43 z43 rfl rfl rfl rfl rfl rfl rfl rfl ?_; intro b76 w cx hb76 hw76
        refine s_appendG (m := 1) cx ei43 Try.underlying41 rfl rfl rfl rfl rfl (cx.row 0 rfl) rfl rfl (by omega) ?_; intro v77 w cx hgr77 hnw77
        replace cx := cx.drop 1
        refine s_val rfl rfl (v_assign rfl rfl) ?_
        refine wpList_nil ?_
        refine wp_region_lit ?_
        refine s_val rfl rfl (v_add rfl hs69 rfl (by omega) (by omega)) ?_
        refine s_val rfl rfl (v_move rfl rfl) ?_
        refine wpList_nil ?_
        refine ⟨gk9 - 1, _, by omega, rfl, n + 1, v77, by omega, hs0, hs1, hs5, hs6, rfl, hs68, rfl, ?_⟩
        rw [diag_succ, List.length_append, qflat_snoc]
        exact cx
      · skip
        try simp only [Bool.and_eq_true, Bool.or_eq_true, Bool.and_eq_false_iff, Bool.or_eq_false_iff, Bool.not_eq_true', Bool.not_eq_false', decide_eq_true_eq, decide_eq_false_iff_not, beq_iff_eq, beq_eq_false_iff_ne, bne_iff_ne, bne_eq_false_iff_eq, ne_eq, Classical.not_not] at hc70
        obtain rfl : P = n := by omega
        refine wp_exit ?_
        refine wp_seq ?_
        refine w_ord cx (Ctx.sub0 cx) mixed [(0, 79), (1, 80), (2, 81), (3, 82), (4, 83), (5, 84), (6, 85), (7, 86), (8, 87), (9, 88), (10, 89), (11, 90), (12, 91), (13, 92), (14, 93), (15, 94)] #[true, true, true, true, true, true, true, true, true, true, true, true, true, true, true, true, false, false, false] (by kernel_rfl) (by kernel_rfl) (by kernel_rfl) (by kernel_rfl) ?_
        refine pu_one rfl (wnt_none rfl) (fun w cx => v_move rfl hs7) ?_
        refine pu_one rfl (wnt_none rfl) (fun w cx => v_move rfl hs0) ?_
        refine pu_one rfl (wnt_none rfl) (fun w cx => v_move rfl hs5) ?_
        refine pu_one rfl (wnt_none rfl) (fun w cx => v_move rfl hs0) ?_
        refine pu_one rfl (wnt_none rfl) (fun w cx => v_lenSlice rfl rfl Try.underlying30) ?_
        refine pu_one rfl (wnt_none rfl) (fun w cx => v_move rfl hs6) ?_
        refine pu_one rfl (wnt_none rfl) (fun w cx => v_subQ rfl rfl rfl (r := ((a.length - S : Nat) : Int)) (by omega) (by omega) (by omega)) ?_
        refine pu_one rfl (wnt_none rfl) (fun w cx => v_slLHn el30 es30 rfl rfl rfl rfl (by omega) (by have := hla.cap.2; omega)) ?_
        refine pu_one rfl (wnt_none rfl) (fun w cx => v_move rfl hs1) ?_
        refine pu_one rfl (wnt_none rfl) (fun w cx => v_move rfl hs5) ?_
        refine pu_one rfl (wnt_none rfl) (fun w cx => v_move rfl hs1) ?_
        refine pu_one rfl (wnt_none rfl) (fun w cx => v_lenSlice rfl rfl Try.underlying30) ?_
        refine pu_one rfl (wnt_none rfl) (fun w cx => v_move rfl hs6) ?_
        refine pu_one rfl (wnt_none rfl) (fun w cx => v_subQ rfl rfl rfl (r := ((b.length - S : Nat) : Int)) (by omega) (by omega) (by omega)) ?_
        refine pu_one rfl (wnt_none rfl) (fun w cx => v_slLHn el30 es30 rfl rfl rfl rfl (by omega) (by have := hlb.cap.2; omega)) ?_
        refine pu_one rfl (wnt_none rfl) (fun w cx => v_move rfl hs5) ?_
        refine pu_nil ?_; intro w cx hwD13
        refine x_one (i := 16) (by kernel_rfl) rfl ?_
        have hLa : Lst w (sliced a1 P (a.length - S) c1 13) (midL a P S) := (hla.up cx.ext).sub (by omega) (by omega)
        have hLb : Lst w (sliced a2 P (b.length - S) c2 13) (midL b P S) := (hlb.up cx.ext).sub (by omega) (by omega)
        have hca := hla.cap.2
        have hcb := hlb.cap.2
        refine s_fn cx (c54 E hE _ _ _ _ P w hLa hLb (fun x hx => hoa x (midL_mem hx)) (fun x hx => hob x (midL_mem hx)) (by omega) (by omega) (Nat.le_trans (Nat.mul_le_mul (show (midL a P S).length ≤ a.length by omega) (show (midL b P S).length ≤ b.length by omega)) hnm) (by omega)) Try.func54 rfl rfl rfl rfl rfl rfl ?_; intro q95 w cx hw95 hp95
        rw [hMd] at hp95
        refine x_next ⟨.inl (Ctx.sub0 cx), ?_⟩
        refine x_one (i := 17) (by kernel_rfl) rfl ?_
        refine s_appendS cx ei43 Try.underlying41 rfl rfl rfl rfl rfl (Src.row hp95 (prow_len _ _)) (prow_len _ _) (by rw [prow_q]; exact qrow_one _) (by rw [diag_len]; exact Nat.le_trans (Nat.mul_le_mul_right _ hMl4) (by decide)) ?_; intro v96 w cx hgr96 hnw96
        refine x_next ⟨.inr (by kernel_rfl), ?_⟩
        refine x_one (i := 18) (by kernel_rfl) rfl ?_
        refine s_val rfl rfl (v_assign rfl rfl) ?_
        refine x_next ⟨.inr (by kernel_rfl), ?_⟩
        refine x_done (by kernel_rfl) ?_
        refine wp_seq ?_
        refine wp_seq ?_
        refine wp_region_lit ?_
        obtain ⟨pr, hpr⟩ : ∃ pr, pr = diag P ++ ((mids E a b).map fun q => (P + q.1, P + q.2)) := ⟨_, rfl⟩
        have hprl : pr.length ≤ 12000 := by rw [hpr, List.length_append, List.length_map, diag_len]; exact hMl4
        rw [show (diag P).length + (mids E a b).length = pr.length by rw [hpr, List.length_append, List.length_map], prow_q, ← List.flatMap_append, ← hpr] at cx
        refine s_val rfl rfl (v_move rfl hs6) ?_
        refine s_val rfl rfl (v_assign rfl rfl) ?_
        refine wpList_nil ?_
        refine wp_block ?_
        skip
        refine w_loop (fun k f w1 => ∃ n x, k + n = S ∧ f 0 = .slice a1 a.length c1 ∧ f 1 = .slice a2 b.length c2 ∧ f 7 = x ∧ f 9 = .int .i64 (S - n : Nat) ∧ Cxr w0 w1 [] [⟨43, 2, x, pr.length + n, (pr ++ ends a.length b.length S n).flatMap qrow⟩]) (S) ?_ ?_
        · skip
          exact ⟨0, _, by omega, hs0, hs1, rfl, rfl, by rw [show ends a.length b.length S 0 = [] from rfl, List.append_nil]; exact cx⟩
        intro gk15 f w hJ
        obtain ⟨n, x, hkn, hs0, hs1, hs7, hs9, cx⟩ := hJ
        refine wp_seq ?_
        refine wp_seq ?_
        refine wp_region_lit ?_
        refine s_val rfl rfl (v_move rfl hs9) ?_
        refine s_val rfl rfl (v_cmp rfl rfl rfl rfl) ?_
        refine wpList_nil ?_
        refine c_split rfl (fun hc99 => ?_) (fun hc99 => ?_)
        · skip
          try simp only [Bool.and_eq_true, Bool.or_eq_true, Bool.and_eq_false_iff, Bool.or_eq_false_iff, Bool.not_eq_true', Bool.not_eq_false', decide_eq_true_eq, decide_eq_false_iff_not, beq_iff_eq, beq_eq_false_iff_ne, bne_iff_ne, bne_eq_false_iff_eq, ne_eq, Classical.not_not] at hc99
          refine wp_skip ?_
          refine wp_seq ?_
          refine wp_block ?_
          refine wp_region_lit ?_
          refine s_val rfl rfl (v_move rfl hs7) ?_
          refine s_val rfl rfl (v_move rfl hs0) ?_
          refine s_val rfl rfl (v_lenSlice rfl rfl Try.underlying30) ?_
          refine s_val rfl rfl (v_move rfl hs9) ?_
          refine s_val rfl rfl (v_subQ rfl rfl rfl (r := ((a.length - (S - n) : Nat) : Int)) (by omega) (by omega) (by omega)) ?_
          refine s_val rfl rfl (v_move rfl hs1) ?_
          refine s_val rfl rfl (v_lenSlice rfl rfl Try.underlying30) ?_
          refine s_val rfl rfl (v_move rfl hs9) ?_
          refine s_val rfl rfl (v_subQ rfl rfl rfl (r := ((b.length - (S - n) : Nat) : Int)) (by omega) (by omega) (by omega)) ?_
          refine s_val rfl rfl (v_build (bd43 _ _) rfl rfl) ?_
          refine s_bsl1 cx Try.underlying41 sz43 z43 rfl rfl rfl rfl rfl rfl rfl rfl ?_; intro b112 w cx hb112 hw112
          refine s_appendG (m := 1) cx ei43 Try.underlying41 rfl rfl rfl rfl rfl (cx.row 0 rfl) rfl rfl (by omega) ?_; intro v113 w cx hgr113 hnw113
          replace cx := cx.drop 1
          refine s_val rfl rfl (v_assign rfl rfl) ?_
          refine wpList_nil ?_
          refine wp_region_lit ?_
          refine s_val rfl rfl (v_move rfl hs9) ?_
          refine s_val rfl rfl (v_sub rfl rfl rfl (by omega) (by omega)) ?_
          refine s_val rfl rfl (v_assign rfl rfl) ?_
          refine wpList_nil ?_
          refine ⟨gk15 - 1, _, by omega, rfl, n + 1, v113, by omega, hs0, hs1, rfl, by show Value.int .i64 _ = _; congr 1; omega, ?_⟩
          rw [ends_succ, ← List.append_assoc, qflat_snoc]
          exact cx
        · skip
          try simp only [Bool.and_eq_true, Bool.or_eq_true, Bool.and_eq_false_iff, Bool.or_eq_false_iff, Bool.not_eq_true', Bool.not_eq_false', decide_eq_true_eq, decide_eq_false_iff_not, beq_iff_eq, beq_eq_false_iff_ne, bne_iff_ne, bne_eq_false_iff_eq, ne_eq, Classical.not_not] at hc99
          refine wp_exit ?_
          refine wp_seq ?_
          refine wp_region_lit ?_
          refine s_val rfl rfl (v_move rfl hs7) ?_
          refine s_val rfl rfl (v_assign rfl rfl) ?_
          refine wpList_nil ?_
          refine wp_ret ?_
          refine ret_tmp Try.results25 rfl ?_
          obtain rfl : n = S := by omega
          have e1 : (pr ++ ends a.length b.length n n) = common E a b := by rw [hpr, hCd]
          have e2 : pr.length + n = (common E a b).length := by rw [← e1, List.length_append, ends_len]
          rw [e1, e2] at cx
          exact ⟨cx.ext, cx.head⟩
end Go.Proofs.Ytmkihcdcgkdilaa
