/-
  Contracts of the sort: stable sort, Clone, sorted.
-/
import Derived.Test.YtmkihcdcgkdilaaSe
namespace Go.Proofs.Ytmkihcdcgkdilaa
open Go Go.Dk Go.RowKit
set_option linter.unusedSimpArgs false
set_option linter.unusedVariables false
attribute [local irreducible] Go.wpList Go.Code.wp Go.bodyPost Go.wpStill Go.wpQuiet
theorem Rw.cut {rs A X B : Els} (h : ∀ r ∈ rs, Rw r) (hp : (A ++ X ++ B).Perm rs) : ∀ r ∈ A ++ X ++ B, Rw r := fun r hr => h r (hp.mem_iff.1 hr)
theorem df_mid {rs A X B : Els} (h : Df rs) (hp : (A ++ X ++ B).Perm rs) : Df X := (h.perm hp.symm).sub ((List.sublist_append_right A X).trans (List.sublist_append_left (A ++ X) B))
theorem perm_mid {A Z X B rs : Els} (hz : Z.Perm X) (hp : (A ++ X ++ B).Perm rs) : (A ++ Z ++ B).Perm rs := ((hz.append_left A).append_right B).trans hp

set_option maxRecDepth 10000 in
theorem c145 (wb : World) (L : List (Nat × Obj)) (R : List Row) (v : Value) (rs : Els) (n : Int) (w0 : World) (cx : Cxr wb w0 L (⟨77, 14, v, rs.length, (rs : Els).flatten⟩ :: R)) (hRs : ∀ r ∈ rs, Rw r) (hn1 : rs.length ≤ 1048576) (hd : Df rs) (hn : n = rs.length) : Ret Try.prog 145 [v, .int .i64 n, FV] w0 (fun _ w' => ∃ Z : Els, Z.Perm rs ∧ Z.Pairwise Lt ∧ Cxr wb w' L (⟨77, 14, v, rs.length, (Z : Els).flatten⟩ :: R)) := by
  refine ret_enter Try.func145 rfl Try.ntmps145 rfl ?_
  skip
  refine wp_seq ?_
  refine wp_region_lit ?_
  refine s_val rfl rfl (v_assign rfl rfl) ?_
  refine wpList_nil ?_
  refine wp_seq ?_
  refine wp_region_lit ?_
  refine s_val rfl rfl (v_move rfl rfl) ?_
  refine s_val rfl rfl (v_assign rfl rfl) ?_
  refine s_val rfl rfl (v_assign rfl rfl) ?_
  refine wpList_nil ?_
  refine wp_seq ?_
  refine wp_block ?_
  refine w_loop (fun k f w1 => ∃ D T : Els, k = T.length ∧ f 0 = v ∧ f 1 = .int .i64 n ∧ f 2 = FV ∧ f 6 = .int .i64 (20 : Nat) ∧ f 7 = .int .i64 D.length ∧ f 8 = .int .i64 (D.length + 20) ∧ (D ++ T).Perm rs ∧ (∀ U, Chunks Lt 20 U → Chunks Lt 20 (D ++ U)) ∧ Cxr wb w1 L (⟨77, 14, v, rs.length, (D ++ T : Els).flatten⟩ :: R)) (rs.length) ?_ ?_
  · skip
    exact ⟨[], rs, rfl, rfl, rfl, rfl, rfl, rfl, rfl, List.Perm.refl _, fun U h => h, cx⟩
  intro gk2 f w hJ
  obtain ⟨D, T, hk, hs0, hs1, hs2, hs6, hs7, hs8, hp, hD, cx⟩ := hJ
  refine wp_seq ?_
  refine wp_seq ?_
  refine wp_region_lit ?_
  refine s_val rfl rfl (v_move rfl hs8) ?_
  refine s_val rfl rfl (v_move rfl hs1) ?_
  refine s_val rfl rfl (v_cmp rfl rfl rfl rfl) ?_
  refine wpList_nil ?_
  refine c_split rfl (fun hc13 => ?_) (fun hc13 => ?_)
  · skip
    try simp only [Bool.and_eq_true, Bool.or_eq_true, Bool.and_eq_false_iff, Bool.or_eq_false_iff, Bool.not_eq_true', Bool.not_eq_false', decide_eq_true_eq, decide_eq_false_iff_not, beq_iff_eq, beq_eq_false_iff_ne, bne_iff_ne, bne_eq_false_iff_eq, ne_eq, Classical.not_not] at hc13
    have hlp := hp.length_eq
    simp only [List.length_append] at hlp
    have e : D ++ T = D ++ T.take 20 ++ T.drop 20 := by rw [List.append_assoc, List.take_append_drop]
    have hlt : (T.take 20).length = 20 := by rw [List.length_take]; omega
    rw [e] at cx hp
    refine wp_skip ?_
    refine wp_block ?_
    refine wp_seq ?_
    refine wp_region_lit ?_
    refine s_val rfl rfl (v_move rfl hs0) ?_
    refine s_val rfl rfl (v_move rfl hs7) ?_
    refine s_val rfl rfl (v_move rfl hs8) ?_
    refine s_val rfl rfl (v_move rfl hs2) ?_
    refine s_callR rfl rfl (runs_fn Try.func149 rfl rfl rfl rfl) (c149 wb L R v rs.length D (T.take 20) (T.drop 20) _ _ _ cx (Rw.cut hRs hp) hp.length_eq hn1 (df_mid hd hp) rfl (by rw [hlt]; rfl)) ?_; intro q18 w hp18
    obtain ⟨Z, hZ, hsZ, cx⟩ := hp18
    have hlZ := hZ.length_eq
    refine wpList_nil ?_
    refine wp_seq ?_
    refine wp_region_lit ?_
    refine s_val rfl rfl (v_move rfl hs8) ?_
    refine s_val rfl rfl (v_assign rfl rfl) ?_
    refine wpList_nil ?_
    refine wp_region_lit ?_
    refine s_val rfl rfl (v_move rfl hs8) ?_
    refine s_val rfl rfl (v_move rfl hs6) ?_
    refine s_val rfl rfl (v_add rfl rfl rfl (by omega) (by omega)) ?_
    refine s_val rfl rfl (v_assign rfl rfl) ?_
    refine wpList_nil ?_
    refine ⟨(T.drop 20).length, _, by rw [List.length_drop]; omega, rfl, D ++ Z, T.drop 20, rfl, hs0, hs1, hs2, hs6, ?_, ?_, perm_mid hZ hp, ?_, cx⟩
    · show Value.int .i64 _ = _; congr 1; rw [List.length_append]; omega
    · show Value.int .i64 _ = _; congr 1; rw [List.length_append]; omega
    · intro U hU; rw [List.append_assoc]; exact hD _ (.cons Z U (by omega) hsZ hU)
  · skip
    try simp only [Bool.and_eq_true, Bool.or_eq_true, Bool.and_eq_false_iff, Bool.or_eq_false_iff, Bool.not_eq_true', Bool.not_eq_false', decide_eq_true_eq, decide_eq_false_iff_not, beq_iff_eq, beq_eq_false_iff_ne, bne_iff_ne, bne_eq_false_iff_eq, ne_eq, Classical.not_not] at hc13
    have hlp := hp.length_eq
    simp only [List.length_append] at hlp
    have e : D ++ T = D ++ T ++ [] := by simp
    rw [e] at cx hp
    refine wp_exit ?_
    refine wp_seq ?_
    refine wp_region_lit ?_
    refine s_val rfl rfl (v_move rfl hs0) ?_
    refine s_val rfl rfl (v_move rfl hs7) ?_
    refine s_val rfl rfl (v_move rfl hs1) ?_
    refine s_val rfl rfl (v_move rfl hs2) ?_
    refine s_callR rfl rfl (runs_fn Try.func149 rfl rfl rfl rfl) (c149 wb L R v rs.length D T [] _ _ _ cx (Rw.cut hRs hp) hp.length_eq hn1 (df_mid hd hp) rfl (by omega)) ?_; intro q27 w hp27
    obtain ⟨Z, hZ, hsZ, cx⟩ := hp27
    have hlZ := hZ.length_eq
    refine wpList_nil ?_
    refine wp_block ?_
    refine w_loop (fun k f w1 => ∃ (s : Nat) (rs1 : Els), k = rs.length - s ∧ f 0 = v ∧ f 1 = .int .i64 n ∧ f 2 = FV ∧ f 6 = .int .i64 s ∧ 20 ≤ s ∧ s ≤ 4000000 ∧ rs1.Perm rs ∧ Chunks Lt s rs1 ∧ Cxr wb w1 L (⟨77, 14, v, rs.length, (rs1 : Els).flatten⟩ :: R)) (rs.length - 20) ?_ ?_
    · skip
      refine ⟨20, D ++ Z ++ [], rfl, hs0, hs1, hs2, hs6, by omega, by omega, perm_mid hZ hp, ?_, cx⟩
      rw [List.append_nil]
      exact hD _ (.last Z (by omega) hsZ)
    intro gk7 f w hJ
    obtain ⟨s, rs1, hk, hs0, hs1, hs2, hs6, hs20, hsm, hp, hch, cx⟩ := hJ
    refine wp_seq ?_
    refine wp_seq ?_
    refine wp_region_lit ?_
    refine s_val rfl rfl (v_move rfl hs6) ?_
    refine s_val rfl rfl (v_move rfl hs1) ?_
    refine s_val rfl rfl (v_cmp rfl rfl rfl rfl) ?_
    refine wpList_nil ?_
    refine c_split rfl (fun hc30 => ?_) (fun hc30 => ?_)
    · skip
      try simp only [Bool.and_eq_true, Bool.or_eq_true, Bool.and_eq_false_iff, Bool.or_eq_false_iff, Bool.not_eq_true', Bool.not_eq_false', decide_eq_true_eq, decide_eq_false_iff_not, beq_iff_eq, beq_eq_false_iff_ne, bne_iff_ne, bne_eq_false_iff_eq, ne_eq, Classical.not_not] at hc30
      skip
      refine wp_skip ?_
      refine wp_block ?_
      refine wp_seq ?_
      refine wp_region_lit ?_
      refine s_val rfl rfl (v_move rfl hs6) ?_
      refine s_val rfl rfl (v_mul rfl rfl rfl (by omega) (by omega)) ?_
      refine s_val rfl rfl (v_assign rfl rfl) ?_
      refine s_val rfl rfl (v_assign rfl rfl) ?_
      refine wpList_nil ?_
      refine wp_seq ?_
      refine wp_block ?_
      refine w_loop (fun k f w1 => ∃ D T : Els, k = T.length ∧ f 0 = v ∧ f 1 = .int .i64 n ∧ f 2 = FV ∧ f 6 = .int .i64 s ∧ f 7 = .int .i64 D.length ∧ f 8 = .int .i64 (D.length + 2 * s) ∧ (D ++ T).Perm rs ∧ (∀ U, Chunks Lt (2 * s) U → Chunks Lt (2 * s) (D ++ U)) ∧ Chunks Lt s T ∧ Cxr wb w1 L (⟨77, 14, v, rs.length, (D ++ T : Els).flatten⟩ :: R)) (rs1.length) ?_ ?_
      · skip
        exact ⟨[], rs1, rfl, hs0, hs1, hs2, hs6, rfl, by show Value.int .i64 _ = _; congr 1; simp, hp, fun U h => h, hch, cx⟩
      intro gk9 f w hJ
      obtain ⟨D, T, hk, hs0, hs1, hs2, hs6, hs7, hs8, hp, hD, hch, cx⟩ := hJ
      refine wp_seq ?_
      refine wp_seq ?_
      refine wp_region_lit ?_
      refine s_val rfl rfl (v_move rfl hs8) ?_
      refine s_val rfl rfl (v_move rfl hs1) ?_
      refine s_val rfl rfl (v_cmp rfl rfl rfl rfl) ?_
      refine wpList_nil ?_
      refine c_split rfl (fun hc35 => ?_) (fun hc35 => ?_)
      · skip
        try simp only [Bool.and_eq_true, Bool.or_eq_true, Bool.and_eq_false_iff, Bool.or_eq_false_iff, Bool.not_eq_true', Bool.not_eq_false', decide_eq_true_eq, decide_eq_false_iff_not, beq_iff_eq, beq_eq_false_iff_ne, bne_iff_ne, bne_eq_false_iff_eq, ne_eq, Classical.not_not] at hc35
        have hlp := hp.length_eq
        simp only [List.length_append] at hlp
        obtain ⟨l1, r1, rfl, hl1, hsa, hc1⟩ := hch.uncons (by omega)
        simp only [List.length_append] at hlp
        obtain ⟨l2, r2, rfl, hl2, hsb, hc2⟩ := hc1.uncons (by omega)
        simp only [List.length_append] at hlp
        have e : D ++ (l1 ++ (l2 ++ r2)) = D ++ (l1 ++ l2) ++ r2 := by simp [List.append_assoc]
        rw [e] at cx hp
        refine wp_skip ?_
        refine wp_block ?_
        refine wp_seq ?_
        refine wp_region_lit ?_
        refine s_val rfl rfl (v_move rfl hs0) ?_
        refine s_val rfl rfl (v_move rfl hs7) ?_
        refine s_val rfl rfl (v_move rfl hs7) ?_
        refine s_val rfl rfl (v_move rfl hs6) ?_
        refine s_val rfl rfl (v_add rfl rfl rfl (by omega) (by omega)) ?_
        refine s_val rfl rfl (v_move rfl hs8) ?_
        refine s_val rfl rfl (v_move rfl hs2) ?_
        refine s_callR rfl rfl (runs_fn Try.func150 rfl rfl rfl rfl) (c150 _ wb L R v rs.length D l1 l2 r2 _ _ _ _ (Nat.le_refl _) cx (Rw.cut hRs hp) hp.length_eq hn1 (df_mid hd hp) hsa hsb (by omega) (by omega) rfl (by omega) (by omega)) ?_; intro q43 w hp43
        obtain ⟨Z, hZ, hsZ, cx⟩ := hp43
        have hlZ := hZ.length_eq
        simp only [List.length_append] at hlZ
        refine wpList_nil ?_
        refine wp_seq ?_
        refine wp_region_lit ?_
        refine s_val rfl rfl (v_move rfl hs8) ?_
        refine s_val rfl rfl (v_assign rfl rfl) ?_
        refine wpList_nil ?_
        refine wp_region_lit ?_
        refine s_val rfl rfl (v_move rfl hs8) ?_
        refine s_val rfl rfl (v_move rfl hs6) ?_
        refine s_val rfl rfl (v_mul rfl rfl rfl (by omega) (by omega)) ?_
        refine s_val rfl rfl (v_add rfl rfl rfl (by omega) (by omega)) ?_
        refine s_val rfl rfl (v_assign rfl rfl) ?_
        refine wpList_nil ?_
        refine ⟨r2.length, _, by simp only [List.length_append] at hk; omega, rfl, D ++ Z, r2, rfl, hs0, hs1, hs2, hs6, ?_, ?_, perm_mid hZ hp, ?_, hc2, cx⟩
        · show Value.int .i64 _ = _; congr 1; rw [List.length_append]; omega
        · show Value.int .i64 _ = _; congr 1; rw [List.length_append]; omega
        · intro U hU; rw [List.append_assoc]; exact hD _ (.cons Z U (by omega) hsZ hU)
      · skip
        try simp only [Bool.and_eq_true, Bool.or_eq_true, Bool.and_eq_false_iff, Bool.or_eq_false_iff, Bool.not_eq_true', Bool.not_eq_false', decide_eq_true_eq, decide_eq_false_iff_not, beq_iff_eq, beq_eq_false_iff_ne, bne_iff_ne, bne_eq_false_iff_eq, ne_eq, Classical.not_not] at hc35
        have hlp := hp.length_eq
        simp only [List.length_append] at hlp
        refine wp_exit ?_
        refine wp_seq ?_
        refine wp_seq ?_
        refine wp_region_lit ?_
        refine s_val rfl rfl (v_move rfl hs7) ?_
        refine s_val rfl rfl (v_move rfl hs6) ?_
        refine s_val rfl rfl (v_add rfl rfl rfl (by omega) (by omega)) ?_
        refine s_val rfl rfl (v_assign rfl rfl) ?_
        refine wpList_nil ?_
        refine wp_seq ?_
        refine wp_region_lit ?_
        refine s_val rfl rfl (v_move rfl rfl) ?_
        refine s_val rfl rfl (v_move rfl hs1) ?_
        refine s_val rfl rfl (v_cmp rfl rfl rfl rfl) ?_
        refine wpList_nil ?_
        refine c_split rfl (fun hc54 => ?_) (fun hc54 => ?_)
        · skip
          try simp only [Bool.and_eq_true, Bool.or_eq_true, Bool.and_eq_false_iff, Bool.or_eq_false_iff, Bool.not_eq_true', Bool.not_eq_false', decide_eq_true_eq, decide_eq_false_iff_not, beq_iff_eq, beq_eq_false_iff_ne, bne_iff_ne, bne_eq_false_iff_eq, ne_eq, Classical.not_not] at hc54
          obtain ⟨l1, r1, rfl, hl1, hsa, hc1⟩ := hch.uncons (by omega)
          simp only [List.length_append] at hlp
          have hr1 := hc1.one (by omega)
          have e : D ++ (l1 ++ r1) = D ++ (l1 ++ r1) ++ [] := by simp
          rw [e] at cx hp
          refine wp_region_lit ?_
          refine s_val rfl rfl (v_move rfl hs0) ?_
          refine s_val rfl rfl (v_move rfl hs7) ?_
          refine s_val rfl rfl (v_move rfl rfl) ?_
          refine s_val rfl rfl (v_move rfl hs1) ?_
          refine s_val rfl rfl (v_move rfl hs2) ?_
          refine s_callR rfl rfl (runs_fn Try.func150 rfl rfl rfl rfl) (c150 _ wb L R v rs.length D l1 r1 [] _ _ _ _ (Nat.le_refl _) cx (Rw.cut hRs hp) hp.length_eq hn1 (df_mid hd hp) hsa hr1 (by omega) (by omega) rfl (by omega) (by omega)) ?_; intro q60 w hp60
          obtain ⟨Z, hZ, hsZ, cx⟩ := hp60
          have hlZ := hZ.length_eq
          simp only [List.length_append] at hlZ
          refine wpList_nil ?_
          refine wp_region_lit ?_
          refine s_val rfl rfl (v_move rfl hs6) ?_
          refine s_val rfl rfl (v_mul rfl rfl rfl (by omega) (by omega)) ?_
          refine s_val rfl rfl (v_assign rfl rfl) ?_
          refine wpList_nil ?_
          refine ⟨rs.length - 2 * s, _, by omega, rfl, 2 * s, D ++ Z ++ [], rfl, hs0, hs1, hs2, ?_, by omega, by omega, perm_mid hZ hp, ?_, cx⟩
          · show Value.int .i64 _ = _; congr 1; omega
          · rw [List.append_nil]
            exact hD _ (.last Z (by omega) hsZ)
        · skip
          try simp only [Bool.and_eq_true, Bool.or_eq_true, Bool.and_eq_false_iff, Bool.or_eq_false_iff, Bool.not_eq_true', Bool.not_eq_false', decide_eq_true_eq, decide_eq_false_iff_not, beq_iff_eq, beq_eq_false_iff_ne, bne_iff_ne, bne_eq_false_iff_eq, ne_eq, Classical.not_not] at hc54
          skip
          refine wp_skip ?_
          refine wp_region_lit ?_
          refine s_val rfl rfl (v_move rfl hs6) ?_
          refine s_val rfl rfl (v_mul rfl rfl rfl (by omega) (by omega)) ?_
          refine s_val rfl rfl (v_assign rfl rfl) ?_
          refine wpList_nil ?_
          refine ⟨rs.length - 2 * s, _, by omega, rfl, 2 * s, D ++ T, rfl, hs0, hs1, hs2, ?_, by omega, by omega, hp, hD _ (.last T (by omega) (hch.one (by omega))), cx⟩
          show Value.int .i64 _ = _; congr 1; omega
    · skip
      try simp only [Bool.and_eq_true, Bool.or_eq_true, Bool.and_eq_false_iff, Bool.or_eq_false_iff, Bool.not_eq_true', Bool.not_eq_false', decide_eq_true_eq, decide_eq_false_iff_not, beq_iff_eq, beq_eq_false_iff_ne, bne_iff_ne, bne_eq_false_iff_eq, ne_eq, Classical.not_not] at hc30
      skip
      refine wp_exit ?_
      refine ret_no (.inr rfl) Try.results145 ?_
      exact ⟨rs1, hp, hch.one (by rw [hp.length_eq]; omega), cx⟩

set_option maxRecDepth 10000 in
theorem c138 (wb : World) (L : List (Nat × Obj)) (R : List Row) (v : Value) (rs : Els) (w0 : World) (cx : Cxr wb w0 L (⟨77, 14, v, rs.length, (rs : Els).flatten⟩ :: R)) (hRs : ∀ r ∈ rs, Rw r) (hn1 : rs.length ≤ 1048576) (hd : Df rs) : Ret Try.prog 138 [v, FV] w0 (fun _ w' => ∃ Z : Els, Z.Perm rs ∧ Z.Pairwise Lt ∧ Cxr wb w' L (⟨77, 14, v, rs.length, (Z : Els).flatten⟩ :: R)) := by
  refine ret_enter Try.func138 rfl Try.ntmps138 rfl ?_
  obtain ⟨va, vc, hv, _⟩ := cx.ownRow
  refine wp_region_lit ?_
  refine s_val rfl rfl (v_move rfl rfl) ?_
  refine s_val rfl rfl (v_move rfl rfl) ?_
  refine s_val rfl rfl (v_lenSlice rfl hv Try.underlying31) ?_
  refine s_val rfl rfl (v_move rfl rfl) ?_
  refine s_callR rfl rfl (runs_fn Try.func145 rfl rfl rfl rfl) (c145 wb L R v rs _ _ cx hRs hn1 hd rfl) ?_; intro q8 w hp8
  refine wpList_nil ?_
  exact ret_no (.inr rfl) Try.results138 hp8

set_option maxRecDepth 10000 in
theorem c137 (A : Nat → Prop) (fs : Fs) (s : Value) (w0 : World) (hA : ∀ b, A b → b < w0.heap.size) (hv : RepF A w0 s fs) (hl : fs.length ≤ 1048576) : Fc Try.prog 137 [s] w0 (fun x w' => ∃ rs, w'.ownsRow w0.heap.size 77 14 x fs.length rs.flatten ∧ RowsF A w' fs rs) := by
  obtain ⟨rs, hrs, hsrc, hlen0, hone0⟩ := src_fields hv
  obtain ⟨fb, fo, hsl, hreps⟩ := hv
  obtain ⟨fa, fc, rfl, hfa⟩ := hsl.form
  refine ret_enter Try.func137 rfl Try.ntmps137 rfl ?_
  have cx := Ctx.start w0
  refine wp_seq ?_
  refine wp_region_lit ?_
  refine s_val rfl rfl (v_assign rfl rfl) ?_
  refine wpList_nil ?_
  refine wp_seq ?_
  refine wp_seq ?_
  refine wp_region_lit ?_
  refine s_val rfl rfl (v_move rfl rfl) ?_
  refine s_val rfl rfl (v_slNil rfl rfl rfl Try.underlying31) ?_
  refine wpList_nil ?_
  refine c_split rfl (fun hc4 => ?_) (fun hc4 => ?_)
  · skip
    skip
    refine wp_seq ?_
    refine wp_region_lit ?_
    refine s_val rfl rfl (v_assign rfl rfl) ?_
    refine wpList_nil ?_
    refine wp_ret ?_
    refine ret_tmp Try.results137 rfl ?_
    have h0 : fs = [] := by
      rcases hsl with ⟨h0, _⟩ | ⟨ad, cap, e, _⟩
      · exact List.eq_nil_of_length_eq_zero h0
      · simp only [Value.slice.injEq] at e
        rw [e.1] at hc4
        cases hc4
    subst h0
    exact ⟨cx.ext, [], World.ownsRow_nil _ _ _ _, trivial⟩
  · skip
    skip
    refine wp_skip ?_
    refine wp_seq ?_
    refine wp_region_lit ?_
    refine s_bsl0 cx Try.underlying31 sz77 rfl rfl rfl ?_; intro b5 w cx hb5 hw5
    refine s_val rfl rfl (v_move rfl rfl) ?_
    replace cx := cx.toRow (k := 0) (size := 14) (cs := []) rfl (by decide)
    refine s_appendS cx ei77 Try.underlying31 rfl rfl rfl rfl rfl (hsrc.up cx.ext) hlen0 hone0 (by omega) ?_; intro v7 w cx hgr7 hnw7
    have hn7 : 0 + fs.length = fs.length := by omega
    rw [hn7] at cx
    refine s_val rfl rfl (v_assign rfl rfl) ?_
    refine wpList_nil ?_
    refine wp_ret ?_
    refine ret_tmp Try.results137 rfl ?_
    exact ⟨cx.ext, rs, cx.head, RowsF.mono (fun _ h => h) (fun b hb => cx.ext.block b (hA b hb)) _ _ hrs⟩

set_option maxRecDepth 10000 in
theorem c114 (u : V) (r : List Value) (w0 : World) (hv : Val w0 u r) (hl : u.fields.length ≤ 1048576) (hn : (keysOf u.fields).Nodup) : Fc Try.prog 114 [.agg r.toArray] w0 (fun x w' => Fld w' x (sortF u.fields)) := by
  obtain ⟨bs, ls, fs, rfl, _, _, hfs⟩ := hv.open
  refine ret_enter Try.func114 rfl Try.ntmps114 rfl ?_
  have cx := Ctx.start w0
  refine wp_seq ?_
  refine wp_region_lit ?_
  refine s_box cx rfl rfl rfl rfl rfl ?_; intro b1 w cx hb1 hw1
  refine s_val rfl rfl (v_assign rfl rfl) ?_
  refine wpList_nil ?_
  refine wp_seq ?_
  refine wp_region_lit ?_
  refine s_val rfl rfl (v_fa fa33_7 rfl rfl) ?_
  refine s_val rfl rfl (v_load1 rfl rfl Try.underlying31 rfl (cx.cell 0 rfl rfl)) ?_
  have cxc := cx
  refine s_fn cx (c137 (fun b => b < w0.heap.size) u.fields _ _ (fun b hb => Nat.lt_of_lt_of_le hb cx.ext.size) (RepF.mono (fun _ h => h) (fun b hb => cx.ext.block b hb) hfs) hl) Try.func137 rfl rfl rfl rfl rfl rfl ?_; intro q6 w cx hw6 hp6
  obtain ⟨rs, hrow6, hrs⟩ := hp6
  have hrl := (RowsF.length _ _ hrs).2
  rw [← hrl] at hrow6
  replace cx := cxc.callRow hw6 hrow6
  have hrs0 : RowsF (fun b => b < w0.heap.size) w0 u.fields rs := RowsF.mono (fun _ h => h) (fun b hb => (cx.ext.block b hb).symm) _ _ hrs
  refine s_val rfl rfl (v_assign rfl rfl) ?_
  refine wpList_nil ?_
  refine wp_seq ?_
  refine wp_region_lit ?_
  refine s_val rfl rfl (v_move rfl rfl) ?_
  refine s_callR rfl rfl (runs_fn Try.func138 rfl rfl rfl rfl) (c138 w0 _ _ _ rs _ cx (RowsF.rw _ _ hrs) (by omega) (hrs.df hn)) ?_; intro q8 w hp8
  obtain ⟨Z, hZ, hsZ, cx⟩ := hp8
  refine wpList_nil ?_
  refine wp_seq ?_
  refine wp_region_lit ?_
  refine s_val rfl rfl (v_move rfl rfl) ?_
  refine s_val rfl rfl (v_assign rfl rfl) ?_
  refine wpList_nil ?_
  refine wp_ret ?_
  refine ret_tmp Try.results114 rfl ?_
  refine ⟨cx.ext, ?_⟩
  have hrow := cx.head
  simp only at hrow
  rw [hrl] at hrow
  refine RepF.mono ?_ (fun _ _ => rfl) (fld_of_row hrow (sortF_length _).symm (RowsF.sort (RowsF.mono (fun _ h => h) (fun b hb => cx.ext.block b hb) _ _ hrs0) hn hZ hsZ) (fun _ _ => rfl))
  rintro b (hb | hb)
  · exact Nat.lt_of_lt_of_le hb cx.ext.size
  · exact (Made_lt cx.head b hb).2
end Go.Proofs.Ytmkihcdcgkdilaa
