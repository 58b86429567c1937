/-
  Contracts: common elements, of the reference.
-/
import Derived.Test.YtmkihcdcgkdilaaQf
namespace Go.Proofs.Ytmkihcdcgkdilaa
open Go Go.Dk Go.RowKit
set_option linter.unusedSimpArgs false
set_option linter.unusedVariables false
attribute [local irreducible] Go.wpList Go.Code.wp Go.bodyPost Go.wpStill Go.wpQuiet
theorem qflat_at {l : List (Nat × Nat)} {i : Nat} {q : Nat × Nat} (h : l[i]? = some q) : (l.flatMap qrow)[i * 2]? = some (.int .i64 (q.1 : Int)) ∧ (l.flatMap qrow)[i * 2 + 1]? = some (.int .i64 (q.2 : Int)) := by
  induction l generalizing i with
  | nil => simp at h
  | cons x l ih =>
    cases i with
    | zero =>
      simp only [List.getElem?_cons_zero, Option.some.injEq] at h
      subst h
      exact ⟨rfl, rfl⟩
    | succ i =>
      have := ih (i := i) (by simpa using h)
      rw [List.flatMap_cons, show (i + 1) * 2 = i * 2 + 2 by omega, show i * 2 + 2 + 1 = (i * 2 + 1) + 2 by omega]
      exact this
theorem sel_bd (E : V → V → Bool) (a b : List V) : ∀ d i j, ∀ q ∈ sel E a b d i j, q.1 < i + d ∧ q.2 < b.length
  | 0, i, j, q, h => by simp [sel] at h
  | d + 1, i, j, q, h => by
    unfold sel at h
    split at h
    · split at h
      · rename_i k hk
        rcases List.mem_cons.1 h with rfl | h
        · have := List.mem_of_find?_eq_some hk
          exact ⟨by show i < _; omega, by simpa using this⟩
        · have := sel_bd E a b d (i + 1) (k + 1) q h; omega
      · have := sel_bd E a b d (i + 1) j q h; omega
    · simp at h
theorem mids_bd (E : V → V → Bool) (a b : List V) (q : Nat × Nat) (h : q ∈ mids E a b) : q.1 ≤ a.length ∧ q.2 ≤ b.length := by
  have h1 := sel_bd E _ _ _ _ _ q h
  have h2 : (midL a (nPre E a b) (nSuf E a b)).length ≤ a.length := by simp only [midL, List.length_take, List.length_drop]; omega
  have h3 : (midL b (nPre E a b) (nSuf E a b)).length ≤ b.length := by simp only [midL, List.length_take, List.length_drop]; omega
  omega
theorem v_iaR {P : Program} {o : Oper} {w : World} {ρ : Operand → Value} {x ix : Operand} {t e : TypeId} {s b k len r : Nat} {m : Int} {kd : IntKind} (hu : P.underlying t = some (.array len e)) (hs : (P.info? e).map (·.size) = some s) (ho : o.op = .indexAddr t x ix)
    (hx : ρ x = .pointer (some ⟨b, k, none⟩)) (hi : ρ ix = .int kd m) (h0 : 0 ≤ m) (h1 : m < len) (he : k + m.toNat * s = r) :
    (execOp ρ o).run P w = .ok (.value (.pointer (some ⟨b, r, none⟩))) w := by
  subst he; exact v_iaA hu hs ho hx hi h0 h1
theorem prow_zero (l : List (Nat × Nat)) : l.flatMap (prow 0) = l.flatMap qrow := by
  rw [prow_q]; congr 1
  conv => rhs; rw [← List.map_id l]
  apply List.map_congr_left
  intro q _; simp

set_option maxRecDepth 10000 in
set_option maxHeartbeats 6400000 in
theorem c26 (E : V → V → Bool) (hE : ∀ x y, E x y = true ↔ canon x = canon y) (a b : List V) (s1 s2 : Value) (w0 : World) (hla : Lst w0 s1 a) (hlb : Lst w0 s2 b) (hoa : ∀ x ∈ a, Fine x) (hob : ∀ x ∈ b, Fine x) (hna : a.length ≤ 6000) (hnb : b.length ≤ 6000) (hnm : a.length * b.length ≤ 40000) : Fc Try.prog 26 [s1, s2] w0 (fun x w' => w'.ownsRow w0.heap.size 43 2 x (common E a b).length ((common E a b).flatMap qrow)) := by
  obtain ⟨a1, c1, b1, o1, rfl, hfa1, hget1⟩ := hla.open
  obtain ⟨a2, c2, b2, o2, rfl, hfa2, hget2⟩ := hlb.open
  obtain ⟨P, hPd⟩ : ∃ P, P = nPre E a b := ⟨_, rfl⟩
  obtain ⟨S, hSd⟩ : ∃ S, S = nSuf E a b := ⟨_, rfl⟩
  have hPa := nPre_a E a b
  have hPb := nPre_b E a b
  have hSa := nSuf_a E a b
  have hSb := nSuf_b E a b
  have hMd : sel E (midL a P S) (midL b P S) (midL a P S).length 0 0 = mids E a b := by rw [hPd, hSd]; rfl
  have hP0 : upw (qPre E a b) (a.length - 0) 0 = P := hPd.symm
  have hS0 : upw (qSuf E a b P) (a.length - P - 0) 0 = S := by rw [hSd, hPd]; rfl
  have hCd : common E a b = diag P ++ ((mids E a b).map fun q => (P + q.1, P + q.2)) ++ ends a.length b.length S S := by rw [hPd, hSd]; rfl
  rw [← hPd] at hPa hPb hSa hSb
  rw [← hSd] at hSa hSb
  have hlA : (midL a P S).length + S + P = a.length := by rw [midL_len hSa]; omega
  have hlB : (midL b P S).length + S + P = b.length := by rw [midL_len hSb]; omega
  replace hSa : P + S ≤ a.length := by omega
  replace hSb : P + S ≤ b.length := by omega
  have hMl := sel_len E (midL a P S) (midL b P S) (midL a P S).length 0 0
  rw [hMd] at hMl
  have hM2 : (mids E a b).length ≤ 6000 := Nat.le_trans hMl (by omega)
  have hMl4 : P + (mids E a b).length ≤ 12000 := Nat.add_le_add (show P ≤ 6000 by omega) hM2
  clear hMl
  refine ret_enter Try.func26 rfl Try.ntmps26 rfl ?_
  have cx := Ctx.start w0
  refine wp_seq ?_
  refine wp_region_lit ?_
  refine s_val rfl rfl (v_assign rfl rfl) ?_
  refine wpList_nil ?_
  refine wp_seq ?_
  refine wp_region_lit ?_
  refine s_val rfl rfl (v_assign rfl rfl) ?_
  refine s_val rfl rfl (v_assign rfl rfl) ?_
  refine wpList_nil ?_
  refine wp_seq ?_
  refine wp_block ?_
  refine w_loop (fun k f w1 => ∃ p, k + p = a.length ∧ f 0 = .slice a1 a.length c1 ∧ f 1 = .slice a2 b.length c2 ∧ f 5 = .int .i64 (p : Nat) ∧ f 6 = .int .i64 0 ∧ p ≤ b.length ∧ upw (qPre E a b) (a.length - p) p = P ∧ Cxr w0 w1 [] []) (a.length) ?_ ?_
  · skip
    exact ⟨0, by omega, rfl, rfl, rfl, rfl, by omega, hP0, cx⟩
  intro gk2 f w hJ
  obtain ⟨p, hki, hs0, hs1, hs5, hs6, hpb, hup, cx⟩ := hJ
  obtain ⟨r1, hr1⟩ := get_opt hget1 p
  obtain ⟨r2, hr2⟩ := get_opt hget2 p
  refine wp_seq ?_
  refine wp_seq ?_
  refine w_quiet cx mixed (by kernel_rfl) ?_
  skip
  refine q_val rfl rfl (fun w cx hwQ => v_move rfl hs5) ?_
  refine q_val rfl rfl (fun w cx hwQ => v_move rfl hs0) ?_
  refine q_val rfl rfl (fun w cx hwQ => v_lenSlice rfl rfl Try.underlying30) ?_
  refine q_val rfl rfl (fun w cx hwQ => v_cmp rfl rfl rfl rfl) ?_
  refine q_val rfl rfl (fun w cx hwQ => v_move rfl rfl) ?_
  refine q_gval rfl rfl rfl (by first | exact w_tt rfl | exact w_gt rfl) (fun hc w cx hwQ => v_move rfl hs5) ?_
  refine q_gval rfl rfl rfl (by first | exact w_tt rfl | exact w_gt rfl) (fun hc w cx hwQ => v_move rfl hs1) ?_
  refine q_gval rfl rfl rfl (by first | exact w_tt rfl | exact w_gt rfl) (fun hc w cx hwQ => v_lenSlice rfl (by first | exact gve hc rfl | exact gve (and_l hc) rfl | exact gve (and_l (and_l hc)) rfl | rfl) Try.underlying30) ?_
  refine q_gval rfl rfl rfl (by first | exact w_tt rfl | exact w_gt rfl) (fun hc w cx hwQ => v_cmp rfl (by first | exact gve hc rfl | exact gve (and_l hc) rfl | exact gve (and_l (and_l hc)) rfl | rfl) (by first | exact gve hc rfl | exact gve (and_l hc) rfl | exact gve (and_l (and_l hc)) rfl | rfl) rfl) ?_
  refine q_val rfl rfl (fun w cx hwQ => v_and rfl rfl rfl rfl) ?_
  refine q_val rfl rfl (fun w cx hwQ => v_move rfl rfl) ?_
  refine q_gval rfl rfl rfl (by first | exact w_tt rfl | exact w_gt rfl) (fun hc w cx hwQ => v_move rfl hs0) ?_
  refine q_gval rfl rfl rfl (by first | exact w_tt rfl | exact w_gt rfl) (fun hc w cx hwQ => v_move rfl hs5) ?_
  refine q_gval rfl rfl rfl (by first | exact w_tt rfl | exact w_gt rfl) (fun hc w cx hwQ => (by obtain ⟨h1, h2⟩ := (by simpa only [Bool.and_eq_true, decide_eq_true_eq] using hc : (p : Int) < (a.length : Int) ∧ (p : Int) < (b.length : Int)); exact v_ia Try.underlying30 sz33 rfl (Eq.trans (gve hc rfl) (by rw [hfa1 (by omega)])) (gve hc rfl) (by omega) (by omega))) ?_
  refine q_gval rfl rfl rfl (by first | exact w_tt rfl | exact w_gt rfl) (fun hc w cx hwQ => (by obtain ⟨h1, h2⟩ := (by simpa only [Bool.and_eq_true, decide_eq_true_eq] using hc : (p : Int) < (a.length : Int) ∧ (p : Int) < (b.length : Int)); exact v_load rfl (gve hc rfl) Try.underlying33 rfl sz33 ((hr1 (by omega)).1.up cx.ext) (hr1 (by omega)).2.len)) ?_
  refine q_gval rfl rfl rfl (by first | exact w_tt rfl | exact w_gt rfl) (fun hc w cx hwQ => v_move rfl hs1) ?_
  refine q_gval rfl rfl rfl (by first | exact w_tt rfl | exact w_gt rfl) (fun hc w cx hwQ => v_move rfl hs5) ?_
  refine q_gval rfl rfl rfl (by first | exact w_tt rfl | exact w_gt rfl) (fun hc w cx hwQ => (by obtain ⟨h1, h2⟩ := (by simpa only [Bool.and_eq_true, decide_eq_true_eq] using hc : (p : Int) < (a.length : Int) ∧ (p : Int) < (b.length : Int)); exact v_ia Try.underlying30 sz33 rfl (Eq.trans (gve hc rfl) (by rw [hfa2 (by omega)])) (gve hc rfl) (by omega) (by omega))) ?_
  refine q_gval rfl rfl rfl (by first | exact w_tt rfl | exact w_gt rfl) (fun hc w cx hwQ => (by obtain ⟨h1, h2⟩ := (by simpa only [Bool.and_eq_true, decide_eq_true_eq] using hc : (p : Int) < (a.length : Int) ∧ (p : Int) < (b.length : Int)); exact v_load rfl (gve hc rfl) Try.underlying33 rfl sz33 ((hr2 (by omega)).1.up cx.ext) (hr2 (by omega)).2.len)) ?_
  refine q_gcall (v := .bool (E (a.getD p nulV) (b.getD p nulV))) rfl rfl rfl (by first | exact w_tt rfl | exact w_gt rfl) (fun hc => runs_fn Try.func27 rfl rfl rfl (cons_eq (gve hc rfl) (cons_eq (gve hc rfl) rfl))) (fun hc w cx hwQ => by obtain ⟨h1, h2⟩ := (by simpa only [Bool.and_eq_true, decide_eq_true_eq] using hc : (p : Int) < (a.length : Int) ∧ (p : Int) < (b.length : Int)); exact (c27 _ _ _ _ _ (fine_getD hoa (k := p) (by omega)) (fine_getD hob (k := p) (by omega)) ((hr1 (by omega)).2.up cx.ext) ((hr2 (by omega)).2.up cx.ext)).det fun b hb => Bool.eq_iff_iff.2 (hb.trans (hE _ _).symm)) ?_
  refine q_val rfl rfl (fun w cx hwQ => v_and rfl rfl rfl rfl) ?_
  refine q_nil ?_; rintro w ⟨cx, hwQ2⟩
  refine c_split rfl (fun hc34 => ?_) (fun hc34 => ?_)
  · skip
    skip
    simp only [Bool.and_eq_true, decide_eq_true_eq] at hc34
    obtain ⟨⟨h1, h2⟩, h3⟩ := hc34
    have hq : qPre E a b p = true := by unfold qPre; rw [decide_eq_true (by omega), h3]; rfl
    rw [show a.length - p = (a.length - (p + 1)) + 1 by omega, upw_yes hq] at hup
    refine wp_skip ?_
    refine wp_block ?_
    refine wp_region_lit ?_
    refine s_val rfl rfl (v_move rfl hs5) ?_
    refine s_val rfl rfl (v_add rfl rfl rfl (by omega) (by omega)) ?_
    refine s_val rfl rfl (v_assign rfl rfl) ?_
    refine wpList_nil ?_
    exact ⟨gk2 - 1, _, by omega, rfl, p + 1, by omega, hs0, hs1, rfl, hs6, by omega, hup, cx⟩
  · skip
    skip
    simp only [Bool.and_eq_false_iff, decide_eq_false_iff_not] at hc34
    obtain rfl : P = p := by
      rw [← hup]
      refine upw_no ?_
      rcases hc34 with (h | h) | h
      · left; omega
      · right; unfold qPre; rw [decide_eq_false (by omega)]; rfl
      · right; unfold qPre; rw [h, Bool.and_false]
    clear hc34 hup
    refine wp_exit ?_
    refine wp_seq ?_
    refine wp_block ?_
    refine w_loop (fun k f w1 => ∃ s, k + s = a.length - P ∧ f 0 = .slice a1 a.length c1 ∧ f 1 = .slice a2 b.length c2 ∧ f 5 = .int .i64 (P : Nat) ∧ f 6 = .int .i64 (s : Nat) ∧ s ≤ b.length - P ∧ upw (qSuf E a b P) (a.length - P - s) s = S ∧ Cxr w0 w1 [] []) (a.length - P) ?_ ?_
    · skip
      exact ⟨0, by omega, hs0, hs1, hs5, hs6, by omega, hS0, cx⟩
    intro gk4 f w hJ
    obtain ⟨s, hks, hs0, hs1, hs5, hs6, hsb, hup, cx⟩ := hJ
    obtain ⟨r1, hr1⟩ := get_opt hget1 (a.length - 1 - s)
    obtain ⟨r2, hr2⟩ := get_opt hget2 (b.length - 1 - s)
    refine wp_seq ?_
    refine wp_seq ?_
    refine w_quiet cx mixed (by kernel_rfl) ?_
    skip
    refine q_val rfl rfl (fun w cx hwQ => v_move rfl hs6) ?_
    refine q_val rfl rfl (fun w cx hwQ => v_move rfl hs0) ?_
    refine q_val rfl rfl (fun w cx hwQ => v_lenSlice rfl rfl Try.underlying30) ?_
    refine q_val rfl rfl (fun w cx hwQ => v_move rfl hs5) ?_
    refine q_val rfl rfl (fun w cx hwQ => v_sub rfl rfl rfl (by omega) (by omega)) ?_
    refine q_val rfl rfl (fun w cx hwQ => v_cmp rfl rfl rfl rfl) ?_
    refine q_val rfl rfl (fun w cx hwQ => v_move rfl rfl) ?_
    refine q_gval rfl rfl rfl (by first | exact w_tt rfl | exact w_gt rfl) (fun hc w cx hwQ => v_move rfl hs6) ?_
    refine q_gval rfl rfl rfl (by first | exact w_tt rfl | exact w_gt rfl) (fun hc w cx hwQ => v_move rfl hs1) ?_
    refine q_gval rfl rfl rfl (by first | exact w_tt rfl | exact w_gt rfl) (fun hc w cx hwQ => v_lenSlice rfl (by first | exact gve hc rfl | exact gve (and_l hc) rfl | exact gve (and_l (and_l hc)) rfl | rfl) Try.underlying30) ?_
    refine q_gval rfl rfl rfl (by first | exact w_tt rfl | exact w_gt rfl) (fun hc w cx hwQ => v_move rfl hs5) ?_
    refine q_gval rfl rfl rfl (by first | exact w_tt rfl | exact w_gt rfl) (fun hc w cx hwQ => v_sub rfl (by first | exact gve hc rfl | exact gve (and_l hc) rfl | exact gve (and_l (and_l hc)) rfl | rfl) (by first | exact gve hc rfl | exact gve (and_l hc) rfl | exact gve (and_l (and_l hc)) rfl | rfl) (by first | omega | (simp only [Bool.and_eq_true, Bool.or_eq_true, Bool.and_eq_false_iff, Bool.or_eq_false_iff, Bool.not_eq_true', Bool.not_eq_false', decide_eq_true_eq, decide_eq_false_iff_not, beq_iff_eq, beq_eq_false_iff_ne, bne_iff_ne, bne_eq_false_iff_eq, ne_eq, Classical.not_not] at hc; omega)) (by first | omega | (simp only [Bool.and_eq_true, Bool.or_eq_true, Bool.and_eq_false_iff, Bool.or_eq_false_iff, Bool.not_eq_true', Bool.not_eq_false', decide_eq_true_eq, decide_eq_false_iff_not, beq_iff_eq, beq_eq_false_iff_ne, bne_iff_ne, bne_eq_false_iff_eq, ne_eq, Classical.not_not] at hc; omega))) ?_
    refine q_gval rfl rfl rfl (by first | exact w_tt rfl | exact w_gt rfl) (fun hc w cx hwQ => v_cmp rfl (by first | exact gve hc rfl | exact gve (and_l hc) rfl | exact gve (and_l (and_l hc)) rfl | rfl) (by first | exact gve hc rfl | exact gve (and_l hc) rfl | exact gve (and_l (and_l hc)) rfl | rfl) rfl) ?_
    refine q_val rfl rfl (fun w cx hwQ => v_and rfl rfl rfl rfl) ?_
    refine q_val rfl rfl (fun w cx hwQ => v_move rfl rfl) ?_
    refine q_gval rfl rfl rfl (by first | exact w_tt rfl | exact w_gt rfl) (fun hc w cx hwQ => v_move rfl hs0) ?_
    refine q_gval rfl rfl rfl (by first | exact w_tt rfl | exact w_gt rfl) (fun hc w cx hwQ => v_move rfl hs0) ?_
    refine q_gval rfl rfl rfl (by first | exact w_tt rfl | exact w_gt rfl) (fun hc w cx hwQ => v_lenSlice rfl (by first | exact gve hc rfl | exact gve (and_l hc) rfl | exact gve (and_l (and_l hc)) rfl | rfl) Try.underlying30) ?_
    refine q_gval rfl rfl rfl (by first | exact w_tt rfl | exact w_gt rfl) (fun hc w cx hwQ => (by obtain ⟨h1, h2⟩ := (by simpa only [Bool.and_eq_true, decide_eq_true_eq] using hc : (s : Int) < (a.length : Int) - (P : Int) ∧ (s : Int) < (b.length : Int) - (P : Int)); exact v_subQ rfl (gve hc rfl) rfl (r := ((a.length - 1 : Nat) : Int)) (by omega) (by omega) (by omega))) ?_
    refine q_gval rfl rfl rfl (by first | exact w_tt rfl | exact w_gt rfl) (fun hc w cx hwQ => v_move rfl hs6) ?_
    refine q_gval rfl rfl rfl (by first | exact w_tt rfl | exact w_gt rfl) (fun hc w cx hwQ => (by obtain ⟨h1, h2⟩ := (by simpa only [Bool.and_eq_true, decide_eq_true_eq] using hc : (s : Int) < (a.length : Int) - (P : Int) ∧ (s : Int) < (b.length : Int) - (P : Int)); exact v_subQ rfl (gve hc rfl) (gve hc rfl) (r := ((a.length - 1 - s : Nat) : Int)) (by omega) (by omega) (by omega))) ?_
    refine q_gval rfl rfl rfl (by first | exact w_tt rfl | exact w_gt rfl) (fun hc w cx hwQ => (by obtain ⟨h1, h2⟩ := (by simpa only [Bool.and_eq_true, decide_eq_true_eq] using hc : (s : Int) < (a.length : Int) - (P : Int) ∧ (s : Int) < (b.length : Int) - (P : Int)); exact v_ia Try.underlying30 sz33 rfl (Eq.trans (gve hc rfl) (by rw [hfa1 (by omega)])) (gve hc rfl) (by omega) (by omega))) ?_
    refine q_gval rfl rfl rfl (by first | exact w_tt rfl | exact w_gt rfl) (fun hc w cx hwQ => (by obtain ⟨h1, h2⟩ := (by simpa only [Bool.and_eq_true, decide_eq_true_eq] using hc : (s : Int) < (a.length : Int) - (P : Int) ∧ (s : Int) < (b.length : Int) - (P : Int)); exact v_load rfl (gve hc rfl) Try.underlying33 rfl sz33 ((hr1 (by omega)).1.up cx.ext) (hr1 (by omega)).2.len)) ?_
    refine q_gval rfl rfl rfl (by first | exact w_tt rfl | exact w_gt rfl) (fun hc w cx hwQ => v_move rfl hs1) ?_
    refine q_gval rfl rfl rfl (by first | exact w_tt rfl | exact w_gt rfl) (fun hc w cx hwQ => v_move rfl hs1) ?_
    refine q_gval rfl rfl rfl (by first | exact w_tt rfl | exact w_gt rfl) (fun hc w cx hwQ => v_lenSlice rfl (by first | exact gve hc rfl | exact gve (and_l hc) rfl | exact gve (and_l (and_l hc)) rfl | rfl) Try.underlying30) ?_
    refine q_gval rfl rfl rfl (by first | exact w_tt rfl | exact w_gt rfl) (fun hc w cx hwQ => (by obtain ⟨h1, h2⟩ := (by simpa only [Bool.and_eq_true, decide_eq_true_eq] using hc : (s : Int) < (a.length : Int) - (P : Int) ∧ (s : Int) < (b.length : Int) - (P : Int)); exact v_subQ rfl (gve hc rfl) rfl (r := ((b.length - 1 : Nat) : Int)) (by omega) (by omega) (by omega))) ?_
    refine q_gval rfl rfl rfl (by first | exact w_tt rfl | exact w_gt rfl) (fun hc w cx hwQ => v_move rfl hs6) ?_
    refine q_gval rfl rfl rfl (by first | exact w_tt rfl | exact w_gt rfl) (fun hc w cx hwQ => (by obtain ⟨h1, h2⟩ := (by simpa only [Bool.and_eq_true, decide_eq_true_eq] using hc : (s : Int) < (a.length : Int) - (P : Int) ∧ (s : Int) < (b.length : Int) - (P : Int)); exact v_subQ rfl (gve hc rfl) (gve hc rfl) (r := ((b.length - 1 - s : Nat) : Int)) (by omega) (by omega) (by omega))) ?_
    refine q_gval rfl rfl rfl (by first | exact w_tt rfl | exact w_gt rfl) (fun hc w cx hwQ => (by obtain ⟨h1, h2⟩ := (by simpa only [Bool.and_eq_true, decide_eq_true_eq] using hc : (s : Int) < (a.length : Int) - (P : Int) ∧ (s : Int) < (b.length : Int) - (P : Int)); exact v_ia Try.underlying30 sz33 rfl (Eq.trans (gve hc rfl) (by rw [hfa2 (by omega)])) (gve hc rfl) (by omega) (by omega))) ?_
    refine q_gval rfl rfl rfl (by first | exact w_tt rfl | exact w_gt rfl) (fun hc w cx hwQ => (by obtain ⟨h1, h2⟩ := (by simpa only [Bool.and_eq_true, decide_eq_true_eq] using hc : (s : Int) < (a.length : Int) - (P : Int) ∧ (s : Int) < (b.length : Int) - (P : Int)); exact v_load rfl (gve hc rfl) Try.underlying33 rfl sz33 ((hr2 (by omega)).1.up cx.ext) (hr2 (by omega)).2.len)) ?_
    refine q_gcall (v := .bool (E (a.getD (a.length - 1 - s) nulV) (b.getD (b.length - 1 - s) nulV))) rfl rfl rfl (by first | exact w_tt rfl | exact w_gt rfl) (fun hc => runs_fn Try.func27 rfl rfl rfl (cons_eq (gve hc rfl) (cons_eq (gve hc rfl) rfl))) (fun hc w cx hwQ => by obtain ⟨h1, h2⟩ := (by simpa only [Bool.and_eq_true, decide_eq_true_eq] using hc : (s : Int) < (a.length : Int) - (P : Int) ∧ (s : Int) < (b.length : Int) - (P : Int)); exact (c27 _ _ _ _ _ (fine_getD hoa (k := (a.length - 1 - s)) (by omega)) (fine_getD hob (k := (b.length - 1 - s)) (by omega)) ((hr1 (by omega)).2.up cx.ext) ((hr2 (by omega)).2.up cx.ext)).det fun b hb => Bool.eq_iff_iff.2 (hb.trans (hE _ _).symm)) ?_
    refine q_val rfl rfl (fun w cx hwQ => v_and rfl rfl rfl rfl) ?_
    refine q_nil ?_; rintro w ⟨cx, hwQ4⟩
    refine c_split rfl (fun hc69 => ?_) (fun hc69 => ?_)
    · skip
      skip
      simp only [Bool.and_eq_true, decide_eq_true_eq] at hc69
      obtain ⟨⟨h1, h2⟩, h3⟩ := hc69
      have hq : qSuf E a b P s = true := by unfold qSuf; rw [decide_eq_true (by omega), h3]; rfl
      rw [show a.length - P - s = (a.length - P - (s + 1)) + 1 by omega, upw_yes hq] at hup
      refine wp_skip ?_
      refine wp_block ?_
      refine wp_region_lit ?_
      refine s_val rfl rfl (v_move rfl hs6) ?_
      refine s_val rfl rfl (v_add rfl rfl rfl (by omega) (by omega)) ?_
      refine s_val rfl rfl (v_assign rfl rfl) ?_
      refine wpList_nil ?_
      exact ⟨gk4 - 1, _, by omega, rfl, s + 1, by omega, hs0, hs1, hs5, rfl, by omega, hup, cx⟩
    · skip
      skip
      simp only [Bool.and_eq_false_iff, decide_eq_false_iff_not] at hc69
      obtain rfl : S = s := by
        rw [← hup]
        refine upw_no ?_
        rcases hc69 with (h | h) | h
        · left; omega
        · right; unfold qSuf; rw [decide_eq_false (by omega)]; rfl
        · right; unfold qSuf; rw [h, Bool.and_false]
      clear hc69 hup
      refine wp_exit ?_
      refine wp_seq ?_
      refine wp_region_lit ?_
      refine s_val rfl rfl (v_assign rfl rfl) ?_
      refine wpList_nil ?_
      refine wp_seq ?_
      refine wp_seq ?_
      refine wp_region_lit ?_
      replace cx := cx.nilRow 43 2
      refine s_val rfl rfl (v_assign rfl rfl) ?_
      refine wpList_nil ?_
      refine wp_block ?_
      refine w_loop (fun k f w1 => ∃ n x, k + n = P ∧ f 0 = .slice a1 a.length c1 ∧ f 1 = .slice a2 b.length c2 ∧ f 5 = .int .i64 (P : Nat) ∧ f 6 = .int .i64 (S : Nat) ∧ f 7 = x ∧ f 8 = .int .i64 (n : Nat) ∧ Cxr w0 w1 [] [⟨43, 2, x, (diag n).length, (diag n).flatMap qrow⟩]) (P) ?_ ?_
      · skip
        exact ⟨0, _, by omega, hs0, hs1, hs5, hs6, rfl, rfl, cx⟩
      intro gk8 f w hJ
      obtain ⟨n, x, hkn, hs0, hs1, hs5, hs6, hs7, hs8, cx⟩ := hJ
      have hdl := diag_len n
      refine wp_seq ?_
      refine wp_seq ?_
      refine wp_region_lit ?_
      refine s_val rfl rfl (v_move rfl hs8) ?_
      refine s_val rfl rfl (v_move rfl hs5) ?_
      refine s_val rfl rfl (v_cmp rfl rfl rfl rfl) ?_
      refine wpList_nil ?_
      refine c_split rfl (fun hc74 => ?_) (fun hc74 => ?_)
      · skip
        try simp only [Bool.and_eq_true, Bool.or_eq_true, Bool.and_eq_false_iff, Bool.or_eq_false_iff, Bool.not_eq_true', Bool.not_eq_false', decide_eq_true_eq, decide_eq_false_iff_not, beq_iff_eq, beq_eq_false_iff_ne, bne_iff_ne, bne_eq_false_iff_eq, ne_eq, Classical.not_not] at hc74
        refine wp_skip ?_
        refine wp_seq ?_
        refine wp_block ?_
        refine wp_region_lit ?_
        refine s_val rfl rfl (v_move rfl hs7) ?_
        refine s_val rfl rfl (v_move rfl hs8) ?_
        refine s_val rfl rfl (v_move rfl hs8) ?_
        refine s_val rfl rfl (v_build (bd43 _ _) rfl rfl) ?_
        refine s_bsl1 cx Try.underlying41 sz43 z43 rfl rfl rfl rfl rfl rfl rfl rfl ?_; intro b81 w cx hb81 hw81
        refine s_appendG (m := 1) cx ei43 Try.underlying41 rfl rfl rfl rfl rfl (cx.row 0 rfl) rfl rfl (by omega) ?_; intro v82 w cx hgr82 hnw82
        replace cx := cx.drop 1
        refine s_val rfl rfl (v_assign rfl rfl) ?_
        refine wpList_nil ?_
        refine wp_region_lit ?_
        refine s_val rfl rfl (v_move rfl hs8) ?_
        refine s_val rfl rfl (v_add rfl rfl rfl (by omega) (by omega)) ?_
        refine s_val rfl rfl (v_assign rfl rfl) ?_
        refine wpList_nil ?_
        refine ⟨gk8 - 1, _, by omega, rfl, n + 1, v82, by omega, hs0, hs1, hs5, hs6, rfl, rfl, ?_⟩
        rw [diag_succ, List.length_append, qflat_snoc]
        exact cx
      · skip
        try simp only [Bool.and_eq_true, Bool.or_eq_true, Bool.and_eq_false_iff, Bool.or_eq_false_iff, Bool.not_eq_true', Bool.not_eq_false', decide_eq_true_eq, decide_eq_false_iff_not, beq_iff_eq, beq_eq_false_iff_ne, bne_iff_ne, bne_eq_false_iff_eq, ne_eq, Classical.not_not] at hc74
        obtain rfl : P = n := by omega
        refine wp_exit ?_
        refine wp_seq ?_
        refine w_quiet cx mixed (by kernel_rfl) ?_
        skip
        refine q_val rfl rfl (fun w cx hwQ => v_move rfl hs0) ?_
        refine q_val rfl rfl (fun w cx hwQ => v_move rfl hs5) ?_
        refine q_val rfl rfl (fun w cx hwQ => v_move rfl hs0) ?_
        refine q_val rfl rfl (fun w cx hwQ => v_lenSlice rfl rfl Try.underlying30) ?_
        refine q_val rfl rfl (fun w cx hwQ => v_move rfl hs6) ?_
        refine q_val rfl rfl (fun w cx hwQ => v_subQ rfl rfl rfl (r := ((a.length - S : Nat) : Int)) (by omega) (by omega) (by omega)) ?_
        refine q_val rfl rfl (fun w cx hwQ => v_slLHn el30 es30 rfl rfl rfl rfl (by omega) (by have := hla.cap.2; omega)) ?_
        refine q_val rfl rfl (fun w cx hwQ => v_move rfl hs1) ?_
        refine q_val rfl rfl (fun w cx hwQ => v_move rfl hs5) ?_
        refine q_val rfl rfl (fun w cx hwQ => v_move rfl hs1) ?_
        refine q_val rfl rfl (fun w cx hwQ => v_lenSlice rfl rfl Try.underlying30) ?_
        refine q_val rfl rfl (fun w cx hwQ => v_move rfl hs6) ?_
        refine q_val rfl rfl (fun w cx hwQ => v_subQ rfl rfl rfl (r := ((b.length - S : Nat) : Int)) (by omega) (by omega) (by omega)) ?_
        refine q_val rfl rfl (fun w cx hwQ => v_slLHn el30 es30 rfl rfl rfl rfl (by omega) (by have := hlb.cap.2; omega)) ?_
        refine q_val rfl rfl (fun w cx hwQ => v_assign rfl rfl) ?_
        refine q_val rfl rfl (fun w cx hwQ => v_assign rfl rfl) ?_
        refine q_nil ?_; rintro w ⟨cx, hwQ11⟩
        refine wp_seq ?_
        refine wp_seq ?_
        refine wp_region_lit ?_
        refine s_val rfl rfl (v_move rfl rfl) ?_
        refine s_val rfl rfl (v_lenSl rfl rfl Try.underlying30) ?_
        refine s_val rfl rfl (v_move rfl rfl) ?_
        refine s_val rfl rfl (v_lenSl rfl rfl Try.underlying30) ?_
        refine s_val rfl rfl (v_mulN rfl rfl rfl (by have h4 : ((a.length - S - P) * (b.length - S - P) : Nat) ≤ 40000 := Nat.le_trans (Nat.mul_le_mul (show a.length - S - P ≤ a.length by omega) (show b.length - S - P ≤ b.length by omega)) hnm; omega)) ?_
        refine s_val rfl rfl (v_cmp rfl rfl rfl rfl) ?_
        refine wpList_nil ?_
        refine c_split rfl (fun hc102 => ?_) (fun hc102 => ?_)
        · skip
          try simp only [Bool.and_eq_true, Bool.or_eq_true, Bool.and_eq_false_iff, Bool.or_eq_false_iff, Bool.not_eq_true', Bool.not_eq_false', decide_eq_true_eq, decide_eq_false_iff_not, beq_iff_eq, beq_eq_false_iff_ne, bne_iff_ne, bne_eq_false_iff_eq, ne_eq, Classical.not_not] at hc102
          refine wp_seq ?_
          refine wp_region_lit ?_
          refine s_val rfl rfl (v_move rfl rfl) ?_
          refine s_val rfl rfl (v_move rfl rfl) ?_
          have hLa : Lst w (sliced a1 P (a.length - S) c1 13) (midL a P S) := (hla.up cx.ext).sub (by omega) (by omega)
          have hLb : Lst w (sliced a2 P (b.length - S) c2 13) (midL b P S) := (hlb.up cx.ext).sub (by omega) (by omega)
          have hca := hla.cap.2
          have hcb := hlb.cap.2
          refine s_fn cx (c55 E hE _ _ _ _ w hLa hLb (fun x hx => hoa x (midL_mem hx)) (fun x hx => hob x (midL_mem hx)) (by omega) (by omega) (Nat.le_trans (Nat.mul_le_mul (show (midL a P S).length ≤ a.length by omega) (show (midL b P S).length ≤ b.length by omega)) hnm)) Try.func55 rfl rfl rfl rfl rfl rfl ?_; intro q105 w cx2 hw105 hp105
          rw [hMd, prow_zero] at hp105
          obtain ⟨aq, cq, rfl, hrq⟩ := own_row hp105
          replace cx := (cx.adopt hw105 hp105).swap
          clear cx2 hp105
          refine s_val rfl rfl (v_assign rfl rfl) ?_
          refine wpList_nil ?_
          refine wp_seq ?_
          refine wp_region_lit ?_
          refine s_val rfl rfl (v_assign rfl rfl) ?_
          refine wpList_nil ?_
          refine wp_block ?_
          refine w_loop (fun k f w1 => ∃ n x, k + n = (mids E a b).length ∧ f 0 = .slice a1 a.length c1 ∧ f 1 = .slice a2 b.length c2 ∧ f 5 = .int .i64 (P : Nat) ∧ f 6 = .int .i64 (S : Nat) ∧ f 7 = x ∧ f 11 = .slice aq (mids E a b).length cq ∧ f 12 = .int .i64 (n : Nat) ∧ Cxr w0 w1 [] [⟨43, 2, x, (diag P ++ (((mids E a b).take n).map fun q => (P + q.1, P + q.2))).length, (diag P ++ (((mids E a b).take n).map fun q => (P + q.1, P + q.2))).flatMap qrow⟩, ⟨43, 2, .slice aq (mids E a b).length cq, (mids E a b).length, (mids E a b).flatMap qrow⟩]) ((mids E a b).length) ?_ ?_
          · skip
            exact ⟨0, _, by omega, hs0, hs1, hs5, hs6, hs7, rfl, rfl, by rw [List.take_zero, List.map_nil, List.append_nil]; exact cx⟩
          intro gk15 f w hJ
          obtain ⟨n, x, hkn, hs0, hs1, hs5, hs6, hs7, hs11, hs12, cx⟩ := hJ
          refine wp_seq ?_
          refine wp_seq ?_
          refine wp_region_lit ?_
          refine s_val rfl rfl (v_move rfl hs12) ?_
          refine s_val rfl rfl (v_move rfl hs11) ?_
          refine s_val rfl rfl (v_lenSlice rfl rfl Try.underlying41) ?_
          refine s_val rfl rfl (v_cmp rfl rfl rfl rfl) ?_
          refine wpList_nil ?_
          refine c_split rfl (fun hc109 => ?_) (fun hc109 => ?_)
          · skip
            try simp only [Bool.and_eq_true, Bool.or_eq_true, Bool.and_eq_false_iff, Bool.or_eq_false_iff, Bool.not_eq_true', Bool.not_eq_false', decide_eq_true_eq, decide_eq_false_iff_not, beq_iff_eq, beq_eq_false_iff_ne, bne_iff_ne, bne_eq_false_iff_eq, ne_eq, Classical.not_not] at hc109
            have hnl : n < (mids E a b).length := by omega
            have hmn : (mids E a b)[n]? = some (mids E a b)[n] := List.getElem?_eq_getElem hnl
            obtain ⟨gq, rfl, _⟩ := hrq (by omega)
            have hmb := mids_bd E a b _ (List.getElem_mem hnl)
            have htl : (diag P ++ (((mids E a b).take n).map fun q => (P + q.1, P + q.2))).length ≤ 12000 := by rw [List.length_append, List.length_map, List.length_take, diag_len]; omega
            refine wp_skip ?_
            refine wp_seq ?_
            refine wp_block ?_
            refine w_ordF cx mixed [(0, 112), (1, 113), (2, 114), (3, 115), (4, 116), (5, 117), (6, 118), (7, 119), (8, 120), (9, 121), (10, 122), (11, 123), (12, 124), (13, 125), (14, 126), (15, 127)] #[true, true, true, true, true, true, true, true, true, true, true, true, true, true, true, true, false, false, false] (by kernel_rfl) (by kernel_rfl) (by kernel_rfl) (by kernel_rfl) ?_
            refine pu_one rfl (wnt_none rfl) (fun w cx => v_move rfl hs7) ?_
            refine pu_one rfl (wnt_none rfl) (fun w cx => v_move rfl hs5) ?_
            refine pu_one rfl (wnt_none rfl) (fun w cx => v_move rfl hs11) ?_
            refine pu_one rfl (wnt_none rfl) (fun w cx => v_move rfl hs12) ?_
            refine pu_one rfl (wnt_none rfl) (fun w cx => v_ia Try.underlying41 sz43 rfl rfl rfl (by omega) (by omega)) ?_
            refine pu_one rfl (wnt_none rfl) (fun w cx => v_iaR (r := 0 + n * 2) Try.underlying43 sz3 rfl rfl rfl (by omega) (by omega) (by rw [Int.toNat_natCast]; rfl)) ?_
            refine pu_one rfl (wnt_none rfl) (fun w cx => v_load1 rfl rfl Try.underlying3 rfl ((cx.rowAt (List.mem_cons_of_mem _ (List.mem_cons_self ..)) (by omega)) (n * 2) (.int .i64 ((mids E a b)[n].1 : Int)) (qflat_at hmn).1)) ?_
            refine pu_one rfl (wnt_none rfl) (fun w cx => v_addQ (p := (P : Int)) (q := ((mids E a b)[n].1 : Int)) rfl rfl rfl (r := ((P + (mids E a b)[n].1 : Nat) : Int)) (by omega) (by omega) (by omega)) ?_
            refine pu_one rfl (wnt_none rfl) (fun w cx => v_move rfl hs5) ?_
            refine pu_one rfl (wnt_none rfl) (fun w cx => v_move rfl hs11) ?_
            refine pu_one rfl (wnt_none rfl) (fun w cx => v_move rfl hs12) ?_
            refine pu_one rfl (wnt_none rfl) (fun w cx => v_ia Try.underlying41 sz43 rfl rfl rfl (by omega) (by omega)) ?_
            refine pu_one rfl (wnt_none rfl) (fun w cx => v_iaR (r := 0 + (n * 2 + 1)) Try.underlying43 sz3 rfl rfl rfl (by omega) (by omega) (by rw [Int.toNat_natCast]; rfl)) ?_
            refine pu_one rfl (wnt_none rfl) (fun w cx => v_load1 rfl rfl Try.underlying3 rfl ((cx.rowAt (List.mem_cons_of_mem _ (List.mem_cons_self ..)) (by omega)) (n * 2 + 1) (.int .i64 ((mids E a b)[n].2 : Int)) (qflat_at hmn).2)) ?_
            refine pu_one rfl (wnt_none rfl) (fun w cx => v_addQ (p := (P : Int)) (q := ((mids E a b)[n].2 : Int)) rfl rfl rfl (r := ((P + (mids E a b)[n].2 : Nat) : Int)) (by omega) (by omega) (by omega)) ?_
            refine pu_one rfl (wnt_none rfl) (fun w cx => v_build (bd43 _ _) rfl rfl) ?_
            refine pu_nil ?_; intro w cx hwD17
            refine x_one (i := 16) (by kernel_rfl) rfl ?_
            refine s_bsl1 cx Try.underlying41 sz43 z43 rfl rfl rfl rfl rfl rfl rfl rfl ?_; intro b128 w cx hb128 hw128
            refine x_next ⟨.inl (by first | exact cx | exact cx.drop 1), ?_⟩
            refine x_one (i := 17) (by kernel_rfl) rfl ?_
            refine s_appendG (m := 1) cx ei43 Try.underlying41 rfl rfl rfl rfl rfl (cx.row 0 rfl) rfl rfl (by omega) ?_; intro v129 w cx hgr129 hnw129
            replace cx := cx.drop 1
            refine x_next ⟨.inr (by kernel_rfl), ?_⟩
            refine x_one (i := 18) (by kernel_rfl) rfl ?_
            refine s_val rfl rfl (v_assign rfl rfl) ?_
            refine x_next ⟨.inr (by kernel_rfl), ?_⟩
            refine x_done (by kernel_rfl) ?_
            refine wp_region_lit ?_
            refine s_val rfl rfl (v_move rfl hs12) ?_
            refine s_val rfl rfl (v_add rfl rfl rfl (by omega) (by omega)) ?_
            refine s_val rfl rfl (v_assign rfl rfl) ?_
            refine wpList_nil ?_
            refine ⟨gk15 - 1, _, by omega, rfl, n + 1, v129, by omega, hs0, hs1, hs5, hs6, rfl, hs11, rfl, ?_⟩
            rw [List.take_add_one, hmn, Option.toList_some, List.map_append, List.map_singleton, ← List.append_assoc, qflat_snoc, List.length_append]
            exact cx
          · skip
            try simp only [Bool.and_eq_true, Bool.or_eq_true, Bool.and_eq_false_iff, Bool.or_eq_false_iff, Bool.not_eq_true', Bool.not_eq_false', decide_eq_true_eq, decide_eq_false_iff_not, beq_iff_eq, beq_eq_false_iff_ne, bne_iff_ne, bne_eq_false_iff_eq, ne_eq, Classical.not_not] at hc109
            obtain rfl : (mids E a b).length = n := by omega
            rw [List.take_of_length_le (Nat.le_refl _)] at cx
            refine wp_exit ?_
            refine wp_seq ?_
            refine wp_seq ?_
            refine wp_region_lit ?_
            obtain ⟨pr, hpr⟩ : ∃ pr, pr = diag P ++ ((mids E a b).map fun q => (P + q.1, P + q.2)) := ⟨_, rfl⟩
            have hprl : pr.length ≤ 12000 := by rw [hpr, List.length_append, List.length_map, diag_len]; exact hMl4
            rw [← hpr] at cx
            replace cx := cx.swap.dropR 1
            refine s_val rfl rfl (v_move rfl hs6) ?_
            refine s_val rfl rfl (v_assign rfl rfl) ?_
            refine wpList_nil ?_
            refine wp_block ?_
            refine w_loop (fun k f w1 => ∃ n x, k + n = S ∧ f 0 = .slice a1 a.length c1 ∧ f 1 = .slice a2 b.length c2 ∧ f 7 = x ∧ f 13 = .int .i64 (S - n : Nat) ∧ Cxr w0 w1 [] [⟨43, 2, x, pr.length + n, (pr ++ ends a.length b.length S n).flatMap qrow⟩]) (S) ?_ ?_
            · skip
              exact ⟨0, _, by omega, hs0, hs1, hs7, rfl, by rw [show ends a.length b.length S 0 = [] from rfl, List.append_nil]; exact cx⟩
            intro gk19 f w hJ
            obtain ⟨n, x, hkn, hs0, hs1, hs7, hs13, cx⟩ := hJ
            refine wp_seq ?_
            refine wp_seq ?_
            refine wp_region_lit ?_
            refine s_val rfl rfl (v_move rfl hs13) ?_
            refine s_val rfl rfl (v_cmp rfl rfl rfl rfl) ?_
            refine wpList_nil ?_
            refine c_split rfl (fun hc132 => ?_) (fun hc132 => ?_)
            · skip
              try simp only [Bool.and_eq_true, Bool.or_eq_true, Bool.and_eq_false_iff, Bool.or_eq_false_iff, Bool.not_eq_true', Bool.not_eq_false', decide_eq_true_eq, decide_eq_false_iff_not, beq_iff_eq, beq_eq_false_iff_ne, bne_iff_ne, bne_eq_false_iff_eq, ne_eq, Classical.not_not] at hc132
              refine wp_skip ?_
              refine wp_seq ?_
              refine wp_block ?_
              refine wp_region_lit ?_
              refine s_val rfl rfl (v_move rfl hs7) ?_
              refine s_val rfl rfl (v_move rfl hs0) ?_
              refine s_val rfl rfl (v_lenSlice rfl rfl Try.underlying30) ?_
              refine s_val rfl rfl (v_move rfl hs13) ?_
              refine s_val rfl rfl (v_subQ rfl rfl rfl (r := ((a.length - (S - n) : Nat) : Int)) (by omega) (by omega) (by omega)) ?_
              refine s_val rfl rfl (v_move rfl hs1) ?_
              refine s_val rfl rfl (v_lenSlice rfl rfl Try.underlying30) ?_
              refine s_val rfl rfl (v_move rfl hs13) ?_
              refine s_val rfl rfl (v_subQ rfl rfl rfl (r := ((b.length - (S - n) : Nat) : Int)) (by omega) (by omega) (by omega)) ?_
              refine s_val rfl rfl (v_build (bd43 _ _) rfl rfl) ?_
              refine s_bsl1 cx Try.underlying41 sz43 z43 rfl rfl rfl rfl rfl rfl rfl rfl ?_; intro b145 w cx hb145 hw145
              refine s_appendG (m := 1) cx ei43 Try.underlying41 rfl rfl rfl rfl rfl (cx.row 0 rfl) rfl rfl (by omega) ?_; intro v146 w cx hgr146 hnw146
              replace cx := cx.drop 1
              refine s_val rfl rfl (v_assign rfl rfl) ?_
              refine wpList_nil ?_
              refine wp_region_lit ?_
              refine s_val rfl rfl (v_move rfl hs13) ?_
              refine s_val rfl rfl (v_sub rfl rfl rfl (by omega) (by omega)) ?_
              refine s_val rfl rfl (v_assign rfl rfl) ?_
              refine wpList_nil ?_
              refine ⟨gk19 - 1, _, by omega, rfl, n + 1, v146, by omega, hs0, hs1, rfl, by show Value.int .i64 _ = _; congr 1; omega, ?_⟩
              rw [ends_succ, ← List.append_assoc, qflat_snoc]
              exact cx
            · skip
              try simp only [Bool.and_eq_true, Bool.or_eq_true, Bool.and_eq_false_iff, Bool.or_eq_false_iff, Bool.not_eq_true', Bool.not_eq_false', decide_eq_true_eq, decide_eq_false_iff_not, beq_iff_eq, beq_eq_false_iff_ne, bne_iff_ne, bne_eq_false_iff_eq, ne_eq, Classical.not_not] at hc132
              refine wp_exit ?_
              refine wp_seq ?_
              refine wp_region_lit ?_
              refine s_val rfl rfl (v_move rfl hs7) ?_
              refine s_val rfl rfl (v_assign rfl rfl) ?_
              refine wpList_nil ?_
              refine wp_ret ?_
              refine ret_tmp Try.results26 rfl ?_
              obtain rfl : n = S := by omega
              have e1 : (pr ++ ends a.length b.length n n) = common E a b := by rw [hpr, hCd]
              have e2 : pr.length + n = (common E a b).length := by rw [← e1, List.length_append, ends_len]
              rw [e1, e2] at cx
              exact ⟨cx.ext, cx.head⟩
        · skip
          try simp only [Bool.and_eq_true, Bool.or_eq_true, Bool.and_eq_false_iff, Bool.or_eq_false_iff, Bool.not_eq_true', Bool.not_eq_false', decide_eq_true_eq, decide_eq_false_iff_not, beq_iff_eq, beq_eq_false_iff_ne, bne_iff_ne, bne_eq_false_iff_eq, ne_eq, Classical.not_not] at hc102
          exfalso
          have h4 : ((a.length - S - P) * (b.length - S - P) : Nat) ≤ 40000 := Nat.le_trans (Nat.mul_le_mul (show a.length - S - P ≤ a.length by omega) (show b.length - S - P ≤ b.length by omega)) hnm
          omega
end Go.Proofs.Ytmkihcdcgkdilaa
