/-
  Contract: middle of the program.
-/
import Derived.Test.YtmkihcdcgkdilaaQa
import Derived.Test.YtmkihcdcgkdilaaQb
namespace Go.Proofs.Ytmkihcdcgkdilaa
open Go Go.Dk Go.RowKit
set_option linter.unusedSimpArgs false
set_option linter.unusedVariables false
attribute [local irreducible] Go.wpList Go.Code.wp Go.bodyPost Go.wpStill Go.wpQuiet
theorem v_quo {P : Program} {o : Oper} {w : World} {ρ : Operand → Value} {t t' : TypeId} {x y : Operand} {p q : Int} (ho : o.op = .binOp .quo t x y t') (hx : ρ x = .int .i64 p) (hy : ρ y = .int .i64 q) (h0 : 0 ≤ p) (h1 : 1 ≤ q) (h2 : p ≤ 9223372036854775807) : (execOp ρ o).run P w = .ok (.value (.int .i64 (p / q))) w := by
  unfold execOp
  rw [ho]
  have e : p.tdiv q = p / q := Int.tdiv_eq_ediv_of_nonneg h0
  have hb := Int.ediv_nonneg h0 (show (0 : Int) ≤ q by omega)
  have hc := Int.ediv_le_self q h0
  have hw : IntKind.i64.wrap (p / q) = p / q := IntWalk.i64_in _ (by omega)
  have hq : q ≠ 0 := by omega
  simp [hx, hy, eqGuard, binOp, Op.intDiv, e, hw, hq]
theorem bd43 (p q : Int) (w : World) : (Instr.build 43 ([(0, .int .i64 p), (1, .int .i64 q)] : List (Nat × Value)).toArray).run Try.prog w = .ok (.agg #[.int .i64 p, .int .i64 q]) w := by
  go_simp
theorem mk82 : ∃ i z, Try.prog.info? 3 = some i ∧ i.zero = some z ∧ i.size = 1 ∧ i.bytes = 8 ∧ z.cells = ([.int .i64 0] : List Value).toArray := by
  obtain ⟨i, z, h1, h2, h3, h4, h5, _⟩ := ei3
  obtain ⟨z', hz1, hz2⟩ := z3
  refine ⟨i, z, h1, h2, h3, h4, ?_⟩
  have := hz1 default
  simp [zeroValue, typeInfo, h1, h2] at this
  rw [this]; exact hz2
theorem mk55 : ∃ i z, Try.prog.info? 4 = some i ∧ i.zero = some z ∧ i.size = 1 ∧ i.bytes = 1 ∧ z.cells = ([.bool false] : List Value).toArray := by
  obtain ⟨i, hi, hzz⟩ := Option.map_eq_some_iff.1 (show (Try.prog.info? 4).map (fun i => (i.zero, i.size, i.bytes)) = some (some (.bool false), 1, 1) by kernel_rfl)
  simp only [Prod.mk.injEq] at hzz
  exact ⟨i, .bool false, hi, hzz.1, hzz.2.1, hzz.2.2, rfl⟩

set_option maxRecDepth 10000 in
set_option maxHeartbeats 6400000 in
theorem c54 (E : V → V → Bool) (hE : ∀ x y, E x y = true ↔ canon x = canon y) (a b : List V) (s1 s2 : Value) (p : Nat) (w0 : World) (hla : Lst w0 s1 a) (hlb : Lst w0 s2 b) (hoa : ∀ x ∈ a, okd 48 x ∧ Fine x) (hob : ∀ x ∈ b, okd 48 x ∧ Fine x) (hna : a.length ≤ 6000) (hnb : b.length ≤ 6000) (hnm : a.length * b.length ≤ 40000) (hp : p ≤ 6000) : Fc Try.prog 54 [s1, s2, .int .i64 (p : Nat)] w0 (fun x w' => w'.ownsRow w0.heap.size 43 2 x (sel E a b a.length 0 0).length ((sel E a b a.length 0 0).flatMap (prow p))) := by
  obtain ⟨a1, c1, b1, o1, rfl, hfa1, hget1⟩ := hla.open
  obtain ⟨a2, c2, b2, o2, rfl, hfa2, hget2⟩ := hlb.open
  refine ret_enter Try.func54 rfl Try.ntmps54 rfl ?_
  have cx := Ctx.start w0
  refine wp_seq ?_
  refine wp_region_lit ?_
  refine s_val rfl rfl (v_assign rfl rfl) ?_
  refine wpList_nil ?_
  refine wp_seq ?_
  refine wp_region_lit ?_
  refine s_val rfl rfl (v_move rfl rfl) ?_
  refine s_val rfl rfl (v_lenSlice rfl rfl Try.underlying30) ?_
  refine s_val rfl rfl (v_move rfl rfl) ?_
  refine s_val rfl rfl (v_lenSlice rfl rfl Try.underlying30) ?_
  refine s_val rfl rfl (v_assign rfl rfl) ?_
  refine s_val rfl rfl (v_assign rfl rfl) ?_
  refine wpList_nil ?_
  refine wp_seq ?_
  refine wp_seq ?_
  refine wp_region_lit ?_
  refine s_val rfl rfl (v_move rfl rfl) ?_
  refine s_val rfl rfl (v_cmp rfl rfl rfl rfl) ?_
  refine s_val rfl rfl (v_move rfl rfl) ?_
  refine s_gval rfl rfl rfl (by first | exact w_ff rfl | exact w_gf rfl) (fun hc => v_move rfl (by first | exact gve hc rfl | exact gve (and_l hc) rfl | exact gve (and_l (and_l hc)) rfl | rfl)) ?_
  refine s_gval rfl rfl rfl (by first | exact w_ff rfl | exact w_gf rfl) (fun hc => v_cmp rfl (by first | exact gve hc rfl | exact gve (and_l hc) rfl | exact gve (and_l (and_l hc)) rfl | rfl) rfl rfl) ?_
  refine s_val rfl rfl (v_or rfl rfl rfl rfl) ?_
  refine s_val rfl rfl (v_move rfl rfl) ?_
  refine s_gval rfl rfl rfl (by first | exact w_ff rfl | exact w_gf rfl) (fun hc => v_move rfl (by first | exact gve hc rfl | exact gve (and_l hc) rfl | exact gve (and_l (and_l hc)) rfl | rfl)) ?_
  refine s_gval rfl rfl rfl (by first | exact w_ff rfl | exact w_gf rfl) (fun hc => v_move rfl (by first | exact gve hc rfl | exact gve (and_l hc) rfl | exact gve (and_l (and_l hc)) rfl | rfl)) ?_
  refine s_gval rfl rfl rfl (by first | exact w_ff rfl | exact w_gf rfl) (fun hc => v_quo rfl rfl (gve hc rfl) (by omega) (by have h5 := hc; simp only [Bool.not_eq_true', Bool.or_eq_false_iff, beq_eq_false_iff_ne] at h5; omega) (by omega)) ?_
  refine s_gval rfl rfl rfl (by first | exact w_ff rfl | exact w_gf rfl) (fun hc => v_cmp rfl (by first | exact gve hc rfl | exact gve (and_l hc) rfl | exact gve (and_l (and_l hc)) rfl | rfl) (by first | exact gve hc rfl | exact gve (and_l hc) rfl | exact gve (and_l (and_l hc)) rfl | rfl) rfl) ?_
  refine s_val rfl rfl (v_or rfl rfl rfl rfl) ?_
  refine wpList_nil ?_
  refine c_split rfl (fun hc34 => ?_) (fun hc34 => ?_)
  · skip
    skip
    refine wp_seq ?_
    refine wp_region_lit ?_
    refine s_val rfl rfl (v_assign rfl rfl) ?_
    refine wpList_nil ?_
    refine wp_ret ?_
    refine ret_tmp Try.results54 rfl ?_
    have hs0 : sel E a b a.length 0 0 = [] := by
      cases hn : a.length with
      | zero => rfl
      | succ d =>
        unfold sel
        rw [if_neg]
        rintro ⟨h1, _⟩
        simp only [Bool.or_eq_true, decide_eq_true_eq, beq_iff_eq] at hc34
        rcases hc34 with (h | h) | h
        · omega
        · omega
        · have hb0 : b.length ≠ 0 := by omega
          have h2 : (a.length : Int) ≤ (1048576 : Int) / (b.length : Int) := by
            have h3 : (a.length : Int) * (b.length : Int) ≤ 1048576 := by
              have := Int.ofNat_le.2 hnm
              rw [Int.natCast_mul] at this
              omega
            exact (Int.le_ediv_iff_mul_le (by omega)).2 h3
          omega
    rw [hs0]
    exact ⟨cx.ext, World.ownsRow_nil _ _ _ _⟩
  · skip
    skip
    have hq := hc34
    simp only [Bool.or_eq_false_iff, beq_eq_false_iff_ne, decide_eq_false_iff_not] at hq
    have hn0 : 0 < a.length := by have := hq.1.1; omega
    have hm0 : 0 < b.length := by have := hq.1.2; omega
    have hNM : a.length * b.length ≤ 40000 := hnm
    have hNN : (a.length + 1) * (b.length + 1) ≤ 52001 := by
      have e : (a.length + 1) * (b.length + 1) = a.length * b.length + a.length + b.length + 1 := by rw [Nat.add_mul, Nat.mul_add]; omega
      omega
    refine wp_skip ?_
    refine wp_seq ?_
    refine wp_region_lit ?_
    refine s_val rfl rfl (v_move rfl rfl) ?_
    refine s_val rfl rfl (v_move rfl rfl) ?_
    refine s_val rfl rfl (v_mulC (c := (a.length * b.length)) rfl rfl rfl rfl (by omega)) ?_
    refine s_make (bytes := 1) (nn := (a.length * b.length)) cx Try.underlying55 mk55 rfl rfl rfl rfl rfl (by omega) (by unfold maxLen; omega) ?_; intro q38 w cx hgr38 hq38
    obtain ⟨g1, rfl⟩ := hq38
    refine s_val rfl rfl (v_assign rfl rfl) ?_
    refine wpList_nil ?_
    refine wp_seq ?_
    refine wp_region_lit ?_
    refine s_val rfl rfl (v_move rfl rfl) ?_
    refine s_val rfl rfl (v_addQ rfl rfl rfl (r := ((a.length + 1 : Nat) : Int)) (by omega) (by omega) (by omega)) ?_
    refine s_val rfl rfl (v_move rfl rfl) ?_
    refine s_val rfl rfl (v_addQ rfl rfl rfl (r := ((b.length + 1 : Nat) : Int)) (by omega) (by omega) (by omega)) ?_
    refine s_val rfl rfl (v_mulC (c := ((a.length + 1) * (b.length + 1))) rfl rfl rfl rfl (by omega)) ?_
    refine s_make (bytes := 8) (nn := ((a.length + 1) * (b.length + 1))) cx Try.underlying82 mk82 rfl rfl rfl rfl rfl (by omega) (by unfold maxLen; omega) ?_; intro q44 w cx hgr44 hq44
    obtain ⟨g2, rfl⟩ := hq44
    refine s_val rfl rfl (v_assign rfl rfl) ?_
    refine wpList_nil ?_
    refine wp_seq ?_
    refine wp_seq ?_
    refine wp_region_lit ?_
    rw [show ([Value.int .i64 0].getD 0 undef) = Value.int .i64 0 from rfl, mkI_zero] at cx
    rw [show ([Value.bool false].getD 0 undef) = Value.bool false from rfl, mkB_zero] at cx
    refine s_val rfl rfl (v_move rfl rfl) ?_
    refine s_val rfl rfl (v_sub rfl rfl rfl (by omega) (by omega)) ?_
    refine s_val rfl rfl (v_assign rfl rfl) ?_
    refine wpList_nil ?_
    refine wp_block ?_
    refine w_loop (fun k f w1 => ∃ (ii : Nat) (F : Nat → Int) (G : Nat → Bool), k = ii ∧ f 0 = .slice a1 a.length c1 ∧ f 1 = .slice a2 b.length c2 ∧ f 2 = .int .i64 (p : Nat) ∧ f 7 = .int .i64 a.length ∧ f 8 = .int .i64 b.length ∧ f 9 = .slice (some ⟨g1, 0, none⟩) (a.length * b.length) (a.length * b.length) ∧ f 10 = .slice (some ⟨g2, 0, none⟩) ((a.length + 1) * (b.length + 1)) ((a.length + 1) * (b.length + 1)) ∧ f 11 = .int .i64 ((ii : Int) - 1) ∧ ii ≤ a.length ∧ TabI E a b F ii b.length ∧ TabB E a b G ii b.length ∧ ZerB b G ii b.length ∧ Cxr w0 w1 [] [⟨3, 1, .slice (some ⟨g2, 0, none⟩) ((a.length + 1) * (b.length + 1)) ((a.length + 1) * (b.length + 1)), ((a.length + 1) * (b.length + 1)), mkI F ((a.length + 1) * (b.length + 1))⟩, ⟨4, 1, .slice (some ⟨g1, 0, none⟩) (a.length * b.length) (a.length * b.length), (a.length * b.length), mkB G (a.length * b.length)⟩]) (a.length) ?_ ?_
    · skip
      exact ⟨a.length, _, _, rfl, rfl, rfl, rfl, rfl, rfl, rfl, rfl, rfl, by omega, TabI.start E a b, (fun i k hi hk h => by omega), (fun i k hk h => rfl), cx⟩
    intro gk7 f w hJ
    obtain ⟨ii, F, G, hki, hs0, hs1, hs2, hs7, hs8, hs9, hs10, hs11, hii, hT0, hTB0, hZ, cx⟩ := hJ
    refine wp_seq ?_
    refine wp_seq ?_
    refine wp_region_lit ?_
    refine s_val rfl rfl (v_move rfl hs11) ?_
    refine s_val rfl rfl (v_cmp rfl rfl rfl rfl) ?_
    refine wpList_nil ?_
    refine c_split rfl (fun hc48 => ?_) (fun hc48 => ?_)
    · skip
      try simp only [Bool.and_eq_true, Bool.or_eq_true, Bool.and_eq_false_iff, Bool.or_eq_false_iff, Bool.not_eq_true', Bool.not_eq_false', decide_eq_true_eq, decide_eq_false_iff_not, beq_iff_eq, beq_eq_false_iff_ne, bne_iff_ne, bne_eq_false_iff_eq, ne_eq, Classical.not_not] at hc48
      obtain ⟨i, rfl⟩ : ∃ i, ii = i + 1 := ⟨ii - 1, by omega⟩
      have hs11' : f 11 = .int .i64 (i : Nat) := by rw [hs11]; congr 1; omega
      refine wp_skip ?_
      refine wp_seq ?_
      refine wp_block ?_
      refine wp_seq ?_
      refine wp_region_lit ?_
      refine s_val rfl rfl (v_move rfl hs8) ?_
      refine s_val rfl rfl (v_sub rfl rfl rfl (by omega) (by omega)) ?_
      refine s_val rfl rfl (v_assign rfl rfl) ?_
      refine wpList_nil ?_
      refine wp_block ?_
      refine w_loop (fun k f w1 => ∃ (kk : Nat) (F : Nat → Int) (G : Nat → Bool), k = kk ∧ f 0 = .slice a1 a.length c1 ∧ f 1 = .slice a2 b.length c2 ∧ f 2 = .int .i64 (p : Nat) ∧ f 7 = .int .i64 a.length ∧ f 8 = .int .i64 b.length ∧ f 9 = .slice (some ⟨g1, 0, none⟩) (a.length * b.length) (a.length * b.length) ∧ f 10 = .slice (some ⟨g2, 0, none⟩) ((a.length + 1) * (b.length + 1)) ((a.length + 1) * (b.length + 1)) ∧ f 11 = .int .i64 (i : Nat) ∧ f 12 = .int .i64 ((kk : Int) - 1) ∧ kk ≤ b.length ∧ TabI E a b F (i + 1) kk ∧ TabB E a b G (i + 1) kk ∧ ZerB b G (i + 1) kk ∧ Cxr w0 w1 [] [⟨3, 1, .slice (some ⟨g2, 0, none⟩) ((a.length + 1) * (b.length + 1)) ((a.length + 1) * (b.length + 1)), ((a.length + 1) * (b.length + 1)), mkI F ((a.length + 1) * (b.length + 1))⟩, ⟨4, 1, .slice (some ⟨g1, 0, none⟩) (a.length * b.length) (a.length * b.length), (a.length * b.length), mkB G (a.length * b.length)⟩]) (b.length) ?_ ?_
      · skip
        exact ⟨b.length, F, G, rfl, hs0, hs1, hs2, hs7, hs8, hs9, hs10, hs11', rfl, by omega, hT0, hTB0, hZ, cx⟩
      intro gk10 f w hJ
      obtain ⟨kk, F, G, hkk, hs0, hs1, hs2, hs7, hs8, hs9, hs10, hs11, hs12, hkb, hT, hTB, hZ, cx⟩ := hJ
      refine wp_seq ?_
      refine wp_seq ?_
      refine wp_region_lit ?_
      refine s_val rfl rfl (v_move rfl hs12) ?_
      refine s_val rfl rfl (v_cmp rfl rfl rfl rfl) ?_
      refine wpList_nil ?_
      refine c_split rfl (fun hc54 => ?_) (fun hc54 => ?_)
      · skip
        try simp only [Bool.and_eq_true, Bool.or_eq_true, Bool.and_eq_false_iff, Bool.or_eq_false_iff, Bool.not_eq_true', Bool.not_eq_false', decide_eq_true_eq, decide_eq_false_iff_not, beq_iff_eq, beq_eq_false_iff_ne, bne_iff_ne, bne_eq_false_iff_eq, ne_eq, Classical.not_not] at hc54
        obtain ⟨k, rfl⟩ : ∃ k, kk = k + 1 := ⟨kk - 1, by omega⟩
        have hs12' : f 12 = .int .i64 (k : Nat) := by rw [hs12]; congr 1; omega
        obtain ⟨t0, ht0⟩ : ∃ t0, t0 = i * (b.length + 1) := ⟨_, rfl⟩
        obtain ⟨t1, ht1⟩ : ∃ t1, t1 = i * b.length := ⟨_, rfl⟩
        have hix0 := ix_lt (n := a.length) (m := b.length) (i := i) (k := k + 1) (by omega) (by omega)
        have hix1 := ix_lt (n := a.length) (m := b.length) (i := i + 1) (k := k + 1) (by omega) (by omega)
        have he1 : (i + 1) * (b.length + 1) = t0 + b.length + 1 := by rw [Nat.add_mul, ← ht0]; omega
        rw [← ht0] at hix0
        rw [he1] at hix1
        have hB1 : F (t0 + k + 1) = (mst E a b i (k + 1) : Int) := by
          have := hT i (k + 1) (by omega) (by omega) (.inr (.inl ⟨rfl, by omega⟩))
          rwa [← ht0, ← Nat.add_assoc] at this
        have hB2 : F (t0 + k + b.length + 1) = (mst E a b (i + 1) k : Int) := by
          have := hT (i + 1) k (by omega) (by omega) (.inl (by omega))
          rwa [he1, show t0 + b.length + 1 + k = t0 + k + b.length + 1 by omega] at this
        have hB3 : F (t0 + k + b.length + 2) = (mst E a b (i + 1) (k + 1) : Int) := by
          have := hT (i + 1) (k + 1) (by omega) (by omega) (.inl (by omega))
          rwa [he1, show t0 + b.length + 1 + (k + 1) = t0 + k + b.length + 2 by omega] at this
        have hst := mst_step E a b (i := i) (k := k) (by omega) (by omega)
        have hml := mst_le E a b _ i (k + 1) rfl
        have hml2 := mst_le E a b _ (i + 1) k rfl
        have hml3 := mst_le E a b _ (i + 1) (k + 1) rfl
        have ht1b : t1 + b.length ≤ a.length * b.length := by
          have := Nat.mul_le_mul_right b.length (show i + 1 ≤ a.length by omega)
          rw [Nat.add_mul, ← ht1] at this; omega
        have hge1 : a[i]? = some a[i] := List.getElem?_eq_getElem (by omega)
        have hge2 : b[k]? = some b[k] := List.getElem?_eq_getElem (by omega)
        have hgd1 : a.getD i nulV = a[i] := by rw [List.getD, hge1]; rfl
        have hgd2 : b.getD k nulV = b[k] := by rw [List.getD, hge2]; rfl
        obtain rfl := hfa1 (by omega)
        obtain rfl := hfa2 (by omega)
        obtain ⟨r1, hr1, hv1⟩ := hget1 i _ hge1
        obtain ⟨r2, hr2, hv2⟩ := hget2 k _ hge2
        refine wp_skip ?_
        refine wp_seq ?_
        refine wp_block ?_
        refine wp_seq ?_
        refine wp_region_lit ?_
        refine s_val rfl rfl (v_move rfl hs11) ?_
        refine s_val rfl rfl (v_move rfl hs8) ?_
        refine s_val rfl rfl (v_addQ rfl rfl rfl (r := ((b.length + 1 : Nat) : Int)) (by omega) (by omega) (by omega)) ?_
        refine s_val rfl rfl (v_mulC (c := t0) rfl rfl rfl ht0.symm (by omega)) ?_
        refine s_val rfl rfl (v_move rfl hs12') ?_
        refine s_val rfl rfl (v_addQ rfl rfl rfl (r := ((t0 + k : Nat) : Int)) (by omega) (by omega) (by omega)) ?_
        refine s_val rfl rfl (v_assign rfl rfl) ?_
        refine wpList_nil ?_
        refine wp_seq ?_
        refine w_ordF cx mixed [(0, 63), (1, 64), (2, 65), (3, 66), (4, 67), (5, 68), (6, 69), (7, 70), (8, 71), (9, 72), (10, 73), (11, 74), (12, 75), (13, 76), (14, 77), (15, 78)] #[true, true, true, true, true, true, true, true, true, true, true, true, true, true, true, true, false] (by kernel_rfl) (by kernel_rfl) (by kernel_rfl) (by kernel_rfl) ?_
        refine pu_one rfl (wnt_none rfl) (fun w cx => v_move rfl hs10) ?_
        refine pu_one rfl (wnt_none rfl) (fun w cx => v_move rfl rfl) ?_
        refine pu_one rfl (wnt_none rfl) (fun w cx => v_move rfl hs10) ?_
        refine pu_one rfl (wnt_none rfl) (fun w cx => v_move rfl rfl) ?_
        refine pu_one rfl (wnt_none rfl) (fun w cx => v_addQ rfl rfl rfl (r := ((t0 + k + 1 : Nat) : Int)) (by omega) (by omega) (by omega)) ?_
        refine pu_one rfl (wnt_none rfl) (fun w cx => v_ia Try.underlying82 sz3 rfl rfl rfl (by omega) (by omega)) ?_
        refine pu_one rfl (wnt_none rfl) (fun w cx => v_load1 rfl rfl Try.underlying3 rfl ((cx.rowAt (List.mem_cons_self ..) (by omega)) _ _ (by rw [Int.toNat_natCast, Nat.mul_one]; exact (mkI_at (by omega)).trans (by rw [hB1])))) ?_
        refine pu_one rfl (wnt_none rfl) (fun w cx => v_move rfl hs10) ?_
        refine pu_one rfl (wnt_none rfl) (fun w cx => v_move rfl rfl) ?_
        refine pu_one rfl (wnt_none rfl) (fun w cx => v_move rfl hs8) ?_
        refine pu_one rfl (wnt_none rfl) (fun w cx => v_addQ rfl rfl rfl (r := ((t0 + k + b.length : Nat) : Int)) (by omega) (by omega) (by omega)) ?_
        refine pu_one rfl (wnt_none rfl) (fun w cx => v_addQ rfl rfl rfl (r := ((t0 + k + b.length + 1 : Nat) : Int)) (by omega) (by omega) (by omega)) ?_
        refine pu_one rfl (wnt_none rfl) (fun w cx => v_ia Try.underlying82 sz3 rfl rfl rfl (by omega) (by omega)) ?_
        refine pu_one rfl (wnt_none rfl) (fun w cx => v_load1 rfl rfl Try.underlying3 rfl ((cx.rowAt (List.mem_cons_self ..) (by omega)) _ _ (by rw [Int.toNat_natCast, Nat.mul_one]; exact (mkI_at (by omega)).trans (by rw [hB2])))) ?_
        refine pu_one rfl (wnt_none rfl) (fun w cx => v_max rfl rfl rfl) ?_
        refine pu_one rfl (wnt_none rfl) (fun w cx => v_ia Try.underlying82 sz3 rfl rfl rfl (by omega) (by omega)) ?_
        refine pu_nil ?_; intro w cx hwD13
        refine x_one (i := 16) (by kernel_rfl) rfl ?_
        refine s_cell (v := .int .i64 (max (mst E a b i (k + 1) : Int) (mst E a b (i + 1) k : Int))) cx rfl rfl rfl rfl rfl rfl (by rw [mkI_len]; omega) sz3 ?_; intro w cx hg13
        rw [show (0 + ((t0 + k : Nat) : Int).toNat * 1) = t0 + k by rw [Int.toNat_natCast]; omega, mkI_set] at cx
        refine x_next ⟨.inr (by kernel_rfl), ?_⟩
        refine x_done (by kernel_rfl) ?_
        refine wp_seq ?_
        refine w_quiet cx mixed (by kernel_rfl) ?_
        skip
        refine q_val rfl rfl (fun w cx hwQ => v_move rfl hs0) ?_
        refine q_val rfl rfl (fun w cx hwQ => v_move rfl hs11) ?_
        refine q_val rfl rfl (fun w cx hwQ => v_ia Try.underlying30 sz33 rfl rfl rfl (by omega) (by omega)) ?_
        refine q_val rfl rfl (fun w cx hwQ => v_load rfl rfl Try.underlying33 rfl sz33 (hr1.up cx.ext) hv1.len) ?_
        refine q_val rfl rfl (fun w cx hwQ => v_move rfl hs1) ?_
        refine q_val rfl rfl (fun w cx hwQ => v_move rfl hs12') ?_
        refine q_val rfl rfl (fun w cx hwQ => v_ia Try.underlying30 sz33 rfl rfl rfl (by omega) (by omega)) ?_
        refine q_val rfl rfl (fun w cx hwQ => v_load rfl rfl Try.underlying33 rfl sz33 (hr2.up cx.ext) hv2.len) ?_
        refine q_call rfl rfl (runs_fn Try.func53 rfl rfl rfl rfl) (fun w cx hwQ => (c53 48 _ _ _ _ _ (by omega) (hoa _ (List.getElem_mem _)).1 (hob _ (List.getElem_mem _)).1 (hoa _ (List.getElem_mem _)).2 (hob _ (List.getElem_mem _)).2 (hv1.up cx.ext) (hv2.up cx.ext)).det fun b hb => Bool.eq_iff_iff.2 (hb.trans (hE _ _).symm)) ?_
        refine q_nil ?_; rintro w ⟨cx, hwQ14⟩
        refine c_split rfl (fun hc87 => ?_) (fun hc87 => ?_)
        · skip
          skip
          refine wp_seq ?_
          refine wp_region_lit ?_
          refine s_val rfl rfl (v_move rfl hs9) ?_
          refine s_val rfl rfl (v_move rfl hs11) ?_
          refine s_val rfl rfl (v_move rfl hs8) ?_
          refine s_val rfl rfl (v_mulC (c := t1) rfl rfl rfl ht1.symm (by omega)) ?_
          refine s_val rfl rfl (v_move rfl hs12') ?_
          refine s_val rfl rfl (v_addQ rfl rfl rfl (r := ((t1 + k : Nat) : Int)) (by omega) (by omega) (by omega)) ?_
          refine s_val rfl rfl (v_ia Try.underlying55 sz4 rfl rfl rfl (by omega) (by omega)) ?_
          replace cx := cx.swap
          refine s_cell (v := .bool true) cx rfl rfl rfl rfl rfl rfl (by rw [mkB_len]; omega) sz4 ?_; intro w cx hg15
          rw [show (0 + ((t1 + k : Nat) : Int).toNat * 1) = t1 + k by rw [Int.toNat_natCast]; omega, mkB_set] at cx
          replace cx := cx.swap
          refine wpList_nil ?_
          refine w_ordF cx mixed [(0, 95), (1, 96), (2, 97), (3, 98), (4, 99), (5, 100), (6, 101), (7, 102), (8, 103), (9, 104), (10, 105), (11, 106), (12, 107), (13, 108), (14, 109), (15, 110)] #[true, true, true, true, true, true, true, true, true, true, true, true, true, true, true, true, false] (by kernel_rfl) (by kernel_rfl) (by kernel_rfl) (by kernel_rfl) ?_
          refine pu_one rfl (wnt_none rfl) (fun w cx => v_move rfl hs10) ?_
          refine pu_one rfl (wnt_none rfl) (fun w cx => v_move rfl rfl) ?_
          refine pu_one rfl (wnt_none rfl) (fun w cx => v_move rfl hs10) ?_
          refine pu_one rfl (wnt_none rfl) (fun w cx => v_move rfl rfl) ?_
          refine pu_one rfl (wnt_none rfl) (fun w cx => v_ia Try.underlying82 sz3 rfl rfl rfl (by omega) (by omega)) ?_
          refine pu_one rfl (wnt_none rfl) (fun w cx => v_load1 rfl rfl Try.underlying3 rfl ((cx.rowAt (List.mem_cons_self ..) (by omega)) _ _ (by rw [Int.toNat_natCast, Nat.mul_one]; exact (mkI_at (by omega)).trans (by rw [if_pos rfl])))) ?_
          refine pu_one rfl (wnt_none rfl) (fun w cx => v_move rfl hs10) ?_
          refine pu_one rfl (wnt_none rfl) (fun w cx => v_move rfl rfl) ?_
          refine pu_one rfl (wnt_none rfl) (fun w cx => v_move rfl hs8) ?_
          refine pu_one rfl (wnt_none rfl) (fun w cx => v_addQ rfl rfl rfl (r := ((t0 + k + b.length : Nat) : Int)) (by omega) (by omega) (by omega)) ?_
          refine pu_one rfl (wnt_none rfl) (fun w cx => v_addQ rfl rfl rfl (r := ((t0 + k + b.length + 2 : Nat) : Int)) (by omega) (by omega) (by omega)) ?_
          refine pu_one rfl (wnt_none rfl) (fun w cx => v_ia Try.underlying82 sz3 rfl rfl rfl (by omega) (by omega)) ?_
          refine pu_one rfl (wnt_none rfl) (fun w cx => v_load1 rfl rfl Try.underlying3 rfl ((cx.rowAt (List.mem_cons_self ..) (by omega)) _ _ (by rw [Int.toNat_natCast, Nat.mul_one]; exact (mkI_at (by omega)).trans (by rw [if_neg (by omega), hB3])))) ?_
          refine pu_one rfl (wnt_none rfl) (fun w cx => v_add rfl rfl rfl (by omega) (by omega)) ?_
          refine pu_one rfl (wnt_none rfl) (fun w cx => v_max rfl rfl rfl) ?_
          refine pu_one rfl (wnt_none rfl) (fun w cx => v_ia Try.underlying82 sz3 rfl rfl rfl (by omega) (by omega)) ?_
          refine pu_nil ?_; intro w cx hwD16
          refine x_one (i := 16) (by kernel_rfl) rfl ?_
          refine s_cell (v := .int .i64 (max (max (mst E a b i (k + 1) : Int) (mst E a b (i + 1) k : Int)) ((mst E a b (i + 1) (k + 1) : Int) + 1))) cx rfl rfl rfl rfl rfl rfl (by rw [mkI_len]; omega) sz3 ?_; intro w cx hg16
          rw [show (0 + ((t0 + k : Nat) : Int).toNat * 1) = t0 + k by rw [Int.toNat_natCast]; omega, mkI_set] at cx
          refine x_next ⟨.inr (by kernel_rfl), ?_⟩
          refine x_done (by kernel_rfl) ?_
          refine wp_region_lit ?_
          refine s_val rfl rfl (v_move rfl hs12) ?_
          refine s_val rfl rfl (v_sub rfl rfl rfl (by omega) (by omega)) ?_
          refine s_val rfl rfl (v_assign rfl rfl) ?_
          refine wpList_nil ?_
          have hEt : E a[i] b[k] = true := hc87
          rw [ht1] at cx
          refine ⟨k, _, by omega, rfl, k, _, _, rfl, hs0, hs1, hs2, hs7, hs8, hs9, hs10, hs11, by show Value.int .i64 _ = _; congr 1 <;> omega, by omega, ?_, hTB.next (by omega) (by rw [hgd1, hgd2]; exact hEt), hZ.next (by omega), cx⟩
          intro i' k' hi' hk' hh
          have := (hT.next (by omega) (by omega) (v := max (max (mst E a b i (k + 1) : Int) (mst E a b (i + 1) k : Int)) ((mst E a b (i + 1) (k + 1) : Int) + 1)) (by rw [hst, if_pos hEt]; omega)) i' k' hi' hk' hh
          rw [← ht0] at this
          rw [← this]
          by_cases hx : i' * (b.length + 1) + k' = t0 + k <;> simp [hx]
        · skip
          skip
          refine wp_skip ?_
          refine wp_region_lit ?_
          refine s_val rfl rfl (v_move rfl hs12) ?_
          refine s_val rfl rfl (v_sub rfl rfl rfl (by omega) (by omega)) ?_
          refine s_val rfl rfl (v_assign rfl rfl) ?_
          refine wpList_nil ?_
          have hEf : ¬ E a[i] b[k] = true := by intro h; have h2 : E a[i] b[k] = false := hc87; rw [h2] at h; cases h
          refine ⟨k, _, by omega, rfl, k, _, G, rfl, hs0, hs1, hs2, hs7, hs8, hs9, hs10, hs11, by show Value.int .i64 _ = _; congr 1 <;> omega, by omega, ?_, hTB.keep hZ (by omega) (by rw [hgd1, hgd2]; exact hc87), hZ.keep, cx⟩
          intro i' k' hi' hk' hh
          have := (hT.next (by omega) (by omega) (v := max (mst E a b i (k + 1) : Int) (mst E a b (i + 1) k : Int)) (by rw [hst, if_neg hEf]; omega)) i' k' hi' hk' hh
          rw [← ht0] at this
          exact this
      · skip
        try simp only [Bool.and_eq_true, Bool.or_eq_true, Bool.and_eq_false_iff, Bool.or_eq_false_iff, Bool.not_eq_true', Bool.not_eq_false', decide_eq_true_eq, decide_eq_false_iff_not, beq_iff_eq, beq_eq_false_iff_ne, bne_iff_ne, bne_eq_false_iff_eq, ne_eq, Classical.not_not] at hc54
        obtain rfl : kk = 0 := by omega
        refine wp_exit ?_
        refine wp_region_lit ?_
        refine s_val rfl rfl (v_move rfl hs11) ?_
        refine s_val rfl rfl (v_sub rfl rfl rfl (by omega) (by omega)) ?_
        refine s_val rfl rfl (v_assign rfl rfl) ?_
        refine wpList_nil ?_
        exact ⟨i, _, by omega, rfl, i, F, G, rfl, hs0, hs1, hs2, hs7, hs8, hs9, hs10, by show Value.int .i64 _ = _; congr 1 <;> omega, by omega, hT.row _ (Nat.le_refl _), hTB.row, hZ.row, cx⟩
    · skip
      try simp only [Bool.and_eq_true, Bool.or_eq_true, Bool.and_eq_false_iff, Bool.or_eq_false_iff, Bool.not_eq_true', Bool.not_eq_false', decide_eq_true_eq, decide_eq_false_iff_not, beq_iff_eq, beq_eq_false_iff_ne, bne_iff_ne, bne_eq_false_iff_eq, ne_eq, Classical.not_not] at hc48
      obtain rfl : ii = 0 := by omega
      refine wp_exit ?_
      refine wp_seq ?_
      refine wp_region_lit ?_
      refine s_val rfl rfl (v_assign rfl rfl) ?_
      refine wpList_nil ?_
      refine wp_seq ?_
      refine wp_region_lit ?_
      replace cx := cx.nilRow 43 2
      have hTB := hTB0
      have hT := hT0
      refine s_val rfl rfl (v_assign rfl rfl) ?_
      refine wpList_nil ?_
      refine wp_seq ?_
      refine wp_seq ?_
      refine wp_region_lit ?_
      refine s_val rfl rfl (v_assign rfl rfl) ?_
      refine wpList_nil ?_
      refine wp_block ?_
      refine w_loop (fun k f w1 => ∃ (i fr : Nat) (pre : List (Nat × Nat)) (x : Value), k + i = a.length ∧ f 0 = .slice a1 a.length c1 ∧ f 1 = .slice a2 b.length c2 ∧ f 2 = .int .i64 (p : Nat) ∧ f 7 = .int .i64 a.length ∧ f 8 = .int .i64 b.length ∧ f 9 = .slice (some ⟨g1, 0, none⟩) (a.length * b.length) (a.length * b.length) ∧ f 10 = .slice (some ⟨g2, 0, none⟩) ((a.length + 1) * (b.length + 1)) ((a.length + 1) * (b.length + 1)) ∧ f 14 = x ∧ f 15 = .int .i64 (fr : Nat) ∧ f 16 = .int .i64 (i : Nat) ∧ fr ≤ b.length ∧ pre.length ≤ i ∧ pre ++ sel E a b (a.length - i) i fr = sel E a b a.length 0 0 ∧ Cxr w0 w1 [] [⟨43, 2, x, pre.length, pre.flatMap (prow p)⟩, ⟨3, 1, .slice (some ⟨g2, 0, none⟩) ((a.length + 1) * (b.length + 1)) ((a.length + 1) * (b.length + 1)), ((a.length + 1) * (b.length + 1)), mkI F ((a.length + 1) * (b.length + 1))⟩, ⟨4, 1, .slice (some ⟨g1, 0, none⟩) (a.length * b.length) (a.length * b.length), (a.length * b.length), mkB G (a.length * b.length)⟩]) (a.length) ?_ ?_
      · skip
        exact ⟨0, 0, [], _, by omega, hs0, hs1, hs2, hs7, hs8, hs9, hs10, rfl, rfl, rfl, by omega, by simp, rfl, cx⟩
      intro gk20 f w hJ
      obtain ⟨i, fr, pre, x, hki, hs0, hs1, hs2, hs7, hs8, hs9, hs10, hs14, hs15, hs16, hfr, hpl, hpre, cx⟩ := hJ
      refine wp_seq ?_
      refine wp_seq ?_
      refine wp_region_lit ?_
      refine s_val rfl rfl (v_move rfl hs16) ?_
      refine s_val rfl rfl (v_move rfl hs7) ?_
      refine s_val rfl rfl (v_cmp rfl rfl rfl rfl) ?_
      refine s_val rfl rfl (v_move rfl rfl) ?_
      refine s_gval rfl rfl rfl (by first | exact w_tt rfl | exact w_gt rfl) (fun hc => v_move rfl hs15) ?_
      refine s_gval rfl rfl rfl (by first | exact w_tt rfl | exact w_gt rfl) (fun hc => v_move rfl hs8) ?_
      refine s_gval rfl rfl rfl (by first | exact w_tt rfl | exact w_gt rfl) (fun hc => v_cmp rfl (by first | exact gve hc rfl | exact gve (and_l hc) rfl | exact gve (and_l (and_l hc)) rfl | rfl) (by first | exact gve hc rfl | exact gve (and_l hc) rfl | exact gve (and_l (and_l hc)) rfl | rfl) rfl) ?_
      refine s_val rfl rfl (v_and rfl rfl rfl rfl) ?_
      refine wpList_nil ?_
      refine c_split rfl (fun hc118 => ?_) (fun hc118 => ?_)
      · skip
        try simp only [Bool.and_eq_true, Bool.or_eq_true, Bool.and_eq_false_iff, Bool.or_eq_false_iff, Bool.not_eq_true', Bool.not_eq_false', decide_eq_true_eq, decide_eq_false_iff_not, beq_iff_eq, beq_eq_false_iff_ne, bne_iff_ne, bne_eq_false_iff_eq, ne_eq, Classical.not_not] at hc118
        obtain ⟨hci, hcf⟩ := hc118
        obtain ⟨t0, ht0⟩ : ∃ t0, t0 = i * (b.length + 1) := ⟨_, rfl⟩
        obtain ⟨t1, ht1⟩ : ∃ t1, t1 = i * b.length := ⟨_, rfl⟩
        have hix0 := ix_lt (n := a.length) (m := b.length) (i := i) (k := fr) (by omega) (by omega)
        rw [← ht0] at hix0
        have he1 : (i + 1) * (b.length + 1) = t0 + b.length + 1 := by rw [Nat.add_mul, ← ht0]; omega
        have ht1b : t1 + b.length ≤ a.length * b.length := by
          have := Nat.mul_le_mul_right b.length (show i + 1 ≤ a.length by omega)
          rw [Nat.add_mul, ← ht1] at this; omega
        have hB0 : F (t0 + fr) = (mst E a b i fr : Int) := by
          have := hT i fr (by omega) (by omega) (.inl (by omega))
          rwa [← ht0] at this
        have hml := mst_le E a b _ i fr rfl
        have hix2 := ix_lt (n := a.length) (m := b.length) (i := i + 1) (k := b.length) (by omega) (by omega)
        rw [he1] at hix2
        refine wp_skip ?_
        refine wp_seq ?_
        refine wp_block ?_
        refine wp_seq ?_
        refine wp_region_lit ?_
        refine s_val rfl rfl (v_move rfl hs10) ?_
        refine s_val rfl rfl (v_move rfl hs16) ?_
        refine s_val rfl rfl (v_move rfl hs8) ?_
        refine s_val rfl rfl (v_addQ rfl rfl rfl (r := ((b.length + 1 : Nat) : Int)) (by omega) (by omega) (by omega)) ?_
        refine s_val rfl rfl (v_mulC (c := t0) rfl rfl rfl ht0.symm (by omega)) ?_
        refine s_val rfl rfl (v_move rfl hs15) ?_
        refine s_val rfl rfl (v_addQ rfl rfl rfl (r := ((t0 + fr : Nat) : Int)) (by omega) (by omega) (by omega)) ?_
        refine s_val rfl rfl (v_ia Try.underlying82 sz3 rfl rfl rfl (by omega) (by omega)) ?_
        refine s_val rfl rfl (v_load1 rfl rfl Try.underlying3 rfl ((cx.rowAt (List.mem_cons_of_mem _ (List.mem_cons_self ..)) (by omega)) _ _ (by rw [Int.toNat_natCast, Nat.mul_one]; exact (mkI_at (by omega)).trans (by rw [hB0])))) ?_
        refine s_val rfl rfl (v_assign rfl rfl) ?_
        refine wpList_nil ?_
        refine wp_seq ?_
        refine wp_seq ?_
        refine wp_region_lit ?_
        refine s_val rfl rfl (v_move rfl rfl) ?_
        refine s_val rfl rfl (v_cmp rfl rfl rfl rfl) ?_
        refine wpList_nil ?_
        refine c_split rfl (fun hc131 => ?_) (fun hc131 => ?_)
        · skip
          try simp only [Bool.and_eq_true, Bool.or_eq_true, Bool.and_eq_false_iff, Bool.or_eq_false_iff, Bool.not_eq_true', Bool.not_eq_false', decide_eq_true_eq, decide_eq_false_iff_not, beq_iff_eq, beq_eq_false_iff_ne, bne_iff_ne, bne_eq_false_iff_eq, ne_eq, Classical.not_not] at hc131
          skip
          refine wp_exit ?_
          refine wp_seq ?_
          refine wp_region_lit ?_
          refine s_val rfl rfl (v_move rfl hs14) ?_
          refine s_val rfl rfl (v_assign rfl rfl) ?_
          refine wpList_nil ?_
          refine wp_ret ?_
          refine ret_tmp Try.results54 rfl ?_
          have hfin : pre = sel E a b a.length 0 0 := by
            have h0 : sel E a b (a.length - i) i fr = [] := by
              cases hd : a.length - i with
              | zero => rfl
              | succ d =>
                unfold sel
                rw [if_neg]
                rintro ⟨_, h1⟩
                exact h1 (by omega)
            rw [h0, List.append_nil] at hpre
            exact hpre
          subst hfin
          exact ⟨cx.ext, cx.head⟩
        · skip
          try simp only [Bool.and_eq_true, Bool.or_eq_true, Bool.and_eq_false_iff, Bool.or_eq_false_iff, Bool.not_eq_true', Bool.not_eq_false', decide_eq_true_eq, decide_eq_false_iff_not, beq_iff_eq, beq_eq_false_iff_ne, bne_iff_ne, bne_eq_false_iff_eq, ne_eq, Classical.not_not] at hc131
          have hne0 : mst E a b i fr ≠ 0 := by omega
          obtain ⟨dd, hdd⟩ : ∃ dd, a.length - i = dd + 1 := ⟨a.length - i - 1, by omega⟩
          have hsel : sel E a b (dd + 1) i fr = match (List.range b.length).find? (prt E a b i fr) with
                | some k => (i, k) :: sel E a b dd (i + 1) (k + 1)
                | none => sel E a b dd (i + 1) fr := by
            conv => lhs; unfold sel
            rw [if_pos ⟨by omega, hne0⟩]
            rfl
          refine wp_skip ?_
          refine wp_seq ?_
          refine wp_region_lit ?_
          refine s_val rfl rfl (v_move rfl hs15) ?_
          refine s_val rfl rfl (v_assign rfl rfl) ?_
          refine wpList_nil ?_
          refine wp_block ?_
          refine w_loop (fun kq f w1 => ∃ k : Nat, kq + k = b.length ∧ fr ≤ k ∧ f 0 = .slice a1 a.length c1 ∧ f 1 = .slice a2 b.length c2 ∧ f 2 = .int .i64 (p : Nat) ∧ f 7 = .int .i64 a.length ∧ f 8 = .int .i64 b.length ∧ f 9 = .slice (some ⟨g1, 0, none⟩) (a.length * b.length) (a.length * b.length) ∧ f 10 = .slice (some ⟨g2, 0, none⟩) ((a.length + 1) * (b.length + 1)) ((a.length + 1) * (b.length + 1)) ∧ f 14 = x ∧ f 15 = .int .i64 (fr : Nat) ∧ f 16 = .int .i64 (i : Nat) ∧ f 17 = .int .i64 (mst E a b i fr : Nat) ∧ f 18 = .int .i64 (k : Nat) ∧ (∀ j, fr ≤ j → j < k → prt E a b i fr j = false) ∧ Cxr w0 w1 [] [⟨43, 2, x, pre.length, pre.flatMap (prow p)⟩, ⟨3, 1, .slice (some ⟨g2, 0, none⟩) ((a.length + 1) * (b.length + 1)) ((a.length + 1) * (b.length + 1)), ((a.length + 1) * (b.length + 1)), mkI F ((a.length + 1) * (b.length + 1))⟩, ⟨4, 1, .slice (some ⟨g1, 0, none⟩) (a.length * b.length) (a.length * b.length), (a.length * b.length), mkB G (a.length * b.length)⟩]) (b.length - fr) ?_ ?_
          · skip
            exact ⟨fr, by omega, by omega, hs0, hs1, hs2, hs7, hs8, hs9, hs10, hs14, hs15, hs16, rfl, rfl, fun j h1 h2 => by omega, cx⟩
          intro gk25 f w hJ
          obtain ⟨k, hkq, hfk, hs0, hs1, hs2, hs7, hs8, hs9, hs10, hs14, hs15, hs16, hs17, hs18, hno, cx⟩ := hJ
          refine wp_seq ?_
          refine wp_seq ?_
          refine wp_region_lit ?_
          refine s_val rfl rfl (v_move rfl hs18) ?_
          refine s_val rfl rfl (v_move rfl hs8) ?_
          refine s_val rfl rfl (v_cmp rfl rfl rfl rfl) ?_
          refine wpList_nil ?_
          refine c_split rfl (fun hc135 => ?_) (fun hc135 => ?_)
          · skip
            try simp only [Bool.and_eq_true, Bool.or_eq_true, Bool.and_eq_false_iff, Bool.or_eq_false_iff, Bool.not_eq_true', Bool.not_eq_false', decide_eq_true_eq, decide_eq_false_iff_not, beq_iff_eq, beq_eq_false_iff_ne, bne_iff_ne, bne_eq_false_iff_eq, ne_eq, Classical.not_not] at hc135
            have hB4 : F (t0 + b.length + 1 + k + 1) = (mst E a b (i + 1) (k + 1) : Int) := by
              have := hT (i + 1) (k + 1) (by omega) (by omega) (.inl (by omega))
              rwa [he1, ← Nat.add_assoc] at this
            have hml5 := mst_le E a b _ (i + 1) (k + 1) rfl
            have hG := hTB i k (by omega) (by omega) (.inl (by omega))
            rw [← ht1] at hG
            have hprt : (E (a.getD i nulV) (b.getD k nulV) && ((mst E a b (i + 1) (k + 1) : Int) + 1 == (mst E a b i fr : Int))) = prt E a b i fr k := by
              unfold prt
              rw [decide_eq_true (by omega : fr ≤ k), Bool.true_and]
              congr 1
              rw [Bool.eq_iff_iff]
              simp only [beq_iff_eq, decide_eq_true_eq]
              omega
            refine wp_skip ?_
            refine wp_seq ?_
            refine wp_block ?_
            refine wp_seq ?_
            refine wp_region_lit ?_
            refine s_val rfl rfl (v_move rfl hs9) ?_
            refine s_val rfl rfl (v_move rfl hs16) ?_
            refine s_val rfl rfl (v_move rfl hs8) ?_
            refine s_val rfl rfl (v_mulC (c := t1) rfl rfl rfl ht1.symm (by omega)) ?_
            refine s_val rfl rfl (v_move rfl hs18) ?_
            refine s_val rfl rfl (v_addQ rfl rfl rfl (r := ((t1 + k : Nat) : Int)) (by omega) (by omega) (by omega)) ?_
            refine s_val rfl rfl (v_ia Try.underlying55 sz4 rfl rfl rfl (by omega) (by omega)) ?_
            refine s_val rfl rfl (v_load1 rfl rfl Try.underlying4 rfl ((cx.rowAt (List.mem_cons_of_mem _ (List.mem_cons_of_mem _ (List.mem_cons_self ..))) (by omega)) _ _ (by rw [Int.toNat_natCast, Nat.mul_one]; exact (mkB_at (by omega)).trans (by rw [hG])))) ?_
            refine s_val rfl rfl (v_move rfl rfl) ?_
            refine s_gval rfl rfl rfl (by first | exact w_tt rfl | exact w_gt rfl) (fun hc => v_move rfl hs10) ?_
            refine s_gval rfl rfl rfl (by first | exact w_tt rfl | exact w_gt rfl) (fun hc => v_move rfl hs16) ?_
            refine s_gval rfl rfl rfl (by first | exact w_tt rfl | exact w_gt rfl) (fun hc => v_addQ rfl (gve hc rfl) rfl (r := ((i + 1 : Nat) : Int)) (by omega) (by omega) (by omega)) ?_
            refine s_gval rfl rfl rfl (by first | exact w_tt rfl | exact w_gt rfl) (fun hc => v_move rfl hs8) ?_
            refine s_gval rfl rfl rfl (by first | exact w_tt rfl | exact w_gt rfl) (fun hc => v_addQ rfl (gve hc rfl) rfl (r := ((b.length + 1 : Nat) : Int)) (by omega) (by omega) (by omega)) ?_
            refine s_gval rfl rfl rfl (by first | exact w_tt rfl | exact w_gt rfl) (fun hc => v_mulC (c := t0 + b.length + 1) rfl (gve hc rfl) (gve hc rfl) he1 (by omega)) ?_
            refine s_gval rfl rfl rfl (by first | exact w_tt rfl | exact w_gt rfl) (fun hc => v_move rfl hs18) ?_
            refine s_gval rfl rfl rfl (by first | exact w_tt rfl | exact w_gt rfl) (fun hc => v_addQ rfl (gve hc rfl) (gve hc rfl) (r := ((t0 + b.length + 1 + k : Nat) : Int)) (by omega) (by omega) (by omega)) ?_
            refine s_gval rfl rfl rfl (by first | exact w_tt rfl | exact w_gt rfl) (fun hc => v_addQ rfl (gve hc rfl) rfl (r := ((t0 + b.length + 1 + k + 1 : Nat) : Int)) (by omega) (by omega) (by omega)) ?_
            refine s_gval rfl rfl rfl (by first | exact w_tt rfl | exact w_gt rfl) (fun hc => v_ia Try.underlying82 sz3 rfl (gve hc rfl) (gve hc rfl) (by omega) (by omega)) ?_
            refine s_gval rfl rfl rfl (by first | exact w_tt rfl | exact w_gt rfl) (fun hc => v_load1 rfl (gve hc rfl) Try.underlying3 rfl ((cx.rowAt (List.mem_cons_of_mem _ (List.mem_cons_self ..)) (by omega)) _ _ (by rw [Int.toNat_natCast, Nat.mul_one]; exact (mkI_at (by omega)).trans (by rw [hB4])))) ?_
            refine s_gval rfl rfl rfl (by first | exact w_tt rfl | exact w_gt rfl) (fun hc => v_add rfl (gve hc rfl) rfl (by omega) (by omega)) ?_
            refine s_gval rfl rfl rfl (by first | exact w_tt rfl | exact w_gt rfl) (fun hc => v_move rfl hs17) ?_
            refine s_gval rfl rfl rfl (by first | exact w_tt rfl | exact w_gt rfl) (fun hc => v_cmp rfl (by first | exact gve hc rfl | exact gve (and_l hc) rfl | exact gve (and_l (and_l hc)) rfl | rfl) (by first | exact gve hc rfl | exact gve (and_l hc) rfl | exact gve (and_l (and_l hc)) rfl | rfl) rfl) ?_
            refine s_val rfl rfl (v_and rfl rfl rfl rfl) ?_
            refine wpList_nil ?_
            refine c_split rfl (fun hc161 => ?_) (fun hc161 => ?_)
            · skip
              skip
              rw [hprt] at hc161
              have hfn : (List.range b.length).find? (prt E a b i fr) = some k := find_first (by omega) hc161 fun j hj => by
                rcases Nat.lt_or_ge j fr with h | h
                · unfold prt; rw [decide_eq_false (by omega)]; rfl
                · exact hno j h hj
              refine wp_seq ?_
              refine wp_region_lit ?_
              refine s_val rfl rfl (v_move rfl hs14) ?_
              refine s_val rfl rfl (v_move rfl hs2) ?_
              refine s_val rfl rfl (v_move rfl hs16) ?_
              refine s_val rfl rfl (v_addQ rfl rfl rfl (r := ((p + i : Nat) : Int)) (by omega) (by omega) (by omega)) ?_
              refine s_val rfl rfl (v_move rfl hs2) ?_
              refine s_val rfl rfl (v_move rfl hs18) ?_
              refine s_val rfl rfl (v_addQ rfl rfl rfl (r := ((p + k : Nat) : Int)) (by omega) (by omega) (by omega)) ?_
              refine s_val rfl rfl (v_build (bd43 _ _) rfl rfl) ?_
              refine s_bsl1 cx Try.underlying41 sz43 z43 rfl rfl rfl rfl rfl rfl rfl rfl ?_; intro b170 w cx hb170 hw170
              refine s_appendG (m := 1) cx ei43 Try.underlying41 rfl rfl rfl rfl rfl (cx.row 0 rfl) rfl rfl (by omega) ?_; intro v171 w cx hgr171 hnw171
              replace cx := cx.drop 1
              refine s_val rfl rfl (v_assign rfl rfl) ?_
              refine wpList_nil ?_
              refine wp_seq ?_
              refine wp_region_lit ?_
              refine s_val rfl rfl (v_move rfl hs18) ?_
              refine s_val rfl rfl (v_add rfl rfl rfl (by omega) (by omega)) ?_
              refine s_val rfl rfl (v_assign rfl rfl) ?_
              refine wpList_nil ?_
              refine wp_exit ?_
              refine wp_region_lit ?_
              refine s_val rfl rfl (v_move rfl hs16) ?_
              refine s_val rfl rfl (v_add rfl rfl rfl (by omega) (by omega)) ?_
              refine s_val rfl rfl (v_assign rfl rfl) ?_
              refine wpList_nil ?_
              rw [hdd, hsel, hfn] at hpre
              refine ⟨gk20 - 1, _, by omega, rfl, i + 1, k + 1, pre ++ [(i, k)], v171, by omega, hs0, hs1, hs2, hs7, hs8, hs9, hs10, rfl, rfl, rfl, by omega, by simp; omega, ?_, ?_⟩
              · rw [show a.length - (i + 1) = dd by omega, List.append_assoc]
                exact hpre
              · rw [List.flatMap_append, List.length_append]
                exact cx
            · skip
              skip
              rw [hprt] at hc161
              refine wp_skip ?_
              refine wp_region_lit ?_
              refine s_val rfl rfl (v_move rfl hs18) ?_
              refine s_val rfl rfl (v_add rfl rfl rfl (by omega) (by omega)) ?_
              refine s_val rfl rfl (v_assign rfl rfl) ?_
              refine wpList_nil ?_
              refine ⟨gk25 - 1, _, by omega, rfl, k + 1, by omega, by omega, hs0, hs1, hs2, hs7, hs8, hs9, hs10, hs14, hs15, hs16, hs17, rfl, fun j h1 h2 => ?_, cx⟩
              rcases Nat.lt_or_ge j k with h | h
              · exact hno j h1 h
              · obtain rfl : j = k := by omega
                exact hc161
          · skip
            try simp only [Bool.and_eq_true, Bool.or_eq_true, Bool.and_eq_false_iff, Bool.or_eq_false_iff, Bool.not_eq_true', Bool.not_eq_false', decide_eq_true_eq, decide_eq_false_iff_not, beq_iff_eq, beq_eq_false_iff_ne, bne_iff_ne, bne_eq_false_iff_eq, ne_eq, Classical.not_not] at hc135
            have hfn : (List.range b.length).find? (prt E a b i fr) = none := find_no fun j hj => by
              rcases Nat.lt_or_ge j fr with h | h
              · unfold prt; rw [decide_eq_false (by omega)]; rfl
              · exact hno j h (by omega)
            refine wp_exit ?_
            refine wp_region_lit ?_
            refine s_val rfl rfl (v_move rfl hs16) ?_
            refine s_val rfl rfl (v_add rfl rfl rfl (by omega) (by omega)) ?_
            refine s_val rfl rfl (v_assign rfl rfl) ?_
            refine wpList_nil ?_
            rw [hdd, hsel, hfn] at hpre
            exact ⟨gk20 - 1, _, by omega, rfl, i + 1, fr, pre, x, by omega, hs0, hs1, hs2, hs7, hs8, hs9, hs10, hs14, hs15, rfl, by omega, by omega, by rw [show a.length - (i + 1) = dd by omega]; exact hpre, cx⟩
      · skip
        try simp only [Bool.and_eq_true, Bool.or_eq_true, Bool.and_eq_false_iff, Bool.or_eq_false_iff, Bool.not_eq_true', Bool.not_eq_false', decide_eq_true_eq, decide_eq_false_iff_not, beq_iff_eq, beq_eq_false_iff_ne, bne_iff_ne, bne_eq_false_iff_eq, ne_eq, Classical.not_not] at hc118
        refine wp_exit ?_
        refine wp_seq ?_
        refine wp_region_lit ?_
        refine s_val rfl rfl (v_move rfl hs14) ?_
        refine s_val rfl rfl (v_assign rfl rfl) ?_
        refine wpList_nil ?_
        refine wp_ret ?_
        refine ret_tmp Try.results54 rfl ?_
        have hfin : pre = sel E a b a.length 0 0 := by
          have h0 : sel E a b (a.length - i) i fr = [] := by
            cases hd : a.length - i with
            | zero => rfl
            | succ d =>
              unfold sel
              rw [if_neg]
              rintro ⟨h1, _⟩
              rcases hc118 with h | h <;> omega
          rw [h0, List.append_nil] at hpre
          exact hpre
        subst hfin
        exact ⟨cx.ext, cx.head⟩
end Go.Proofs.Ytmkihcdcgkdilaa
