/-
  Contracts: Cost of the program, Cost of the reference, the law DiffCosts.
-/
import Derived.Test.YtmkihcdcgkdilaaCc
namespace Go.Proofs.Ytmkihcdcgkdilaa
open Go Go.Dk Go.RowKit
set_option linter.unusedSimpArgs false
set_option linter.unusedVariables false
attribute [local irreducible] Go.wpList Go.Code.wp Go.bodyPost Go.wpStill
theorem sum300 (l : List Ch) (hk : ∀ c ∈ l, Okv 150 c.old ∧ Okv 150 c.new) : ∀ i, ((l.map costOf).take i).sum ≤ 300 * i := by
  induction l with
  | nil => intro i; simp
  | cons c l ih =>
    intro i
    cases i with
    | zero => simp
    | succ i =>
      have h1 := ih (fun c hc => hk c (List.mem_cons_of_mem _ hc)) i
      have h2 := costOf_le (hk c (List.mem_cons_self ..)).1 (hk c (List.mem_cons_self ..)).2
      simp only [List.map_cons, List.take_succ_cons, List.sum_cons]
      omega

set_option maxRecDepth 10000 in
theorem c18 (l : List Ch) (s : Value) (w0 : World) (hv : Chs w0 s l) (hlen : l.length ≤ 50) (hf : ∀ c ∈ l, Fine c.old ∧ Fine c.new) (hk : ∀ c ∈ l, Okv 150 c.old ∧ Okv 150 c.new) : Fc Try.prog 18 [s] w0 (IsI fun m => m = (l.map costOf).sum) := by
  obtain ⟨a, c, b, o, rfl, hla, hget⟩ := hv.form
  refine ret_enter Try.func18 rfl Try.ntmps18 rfl ?_
  have cx := Ctx.start w0
  refine wp_seq ?_
  refine wp_region_lit ?_
  refine s_val rfl rfl (v_assign rfl rfl) ?_
  refine wpList_nil ?_
  refine wp_seq ?_
  refine wp_region_lit ?_
  refine s_val rfl rfl (v_assign rfl rfl) ?_
  refine wpList_nil ?_
  refine wp_seq ?_
  refine wp_seq ?_
  refine wp_region_lit ?_
  refine s_val rfl rfl (v_move rfl rfl) ?_
  refine s_val rfl rfl (v_lenSlice rfl rfl Try.underlying22) ?_
  refine s_val rfl rfl (v_move rfl rfl) ?_
  refine wpList_nil ?_
  refine wp_block ?_
  refine w_loop (fun k f w1 => ∃ i : Nat, k + i = l.length ∧ f 6 = .slice a l.length c ∧ f 7 = .int .i64 l.length ∧ f 8 = .int .i64 i ∧ f 3 = .int .i64 (((l.map costOf).take i).sum : Nat) ∧ Ctx w0 w1 []) (l.length) ?_ ?_
  · skip
    exact ⟨0, by omega, rfl, rfl, rfl, by simp; rfl, cx⟩
  intro gk3 f w hJ
  obtain ⟨i, hki, hs6, hs7, hs8, hs3, cx⟩ := hJ
  refine wp_seq ?_
  refine wp_region_lit ?_
  refine s_val rfl rfl (v_cmp rfl hs8 hs7 rfl) ?_
  refine wpList_nil ?_
  refine wp_seq ?_
  refine c_split rfl (fun hc9 => ?_) (fun hc9 => ?_)
  · skip
    try simp only [Bool.and_eq_true, Bool.or_eq_true, Bool.and_eq_false_iff, Bool.or_eq_false_iff, Bool.not_eq_true', Bool.not_eq_false', decide_eq_true_eq, decide_eq_false_iff_not, beq_iff_eq, beq_eq_false_iff_ne, bne_iff_ne, bne_eq_false_iff_eq, ne_eq, Classical.not_not] at hc9
    obtain rfl := hla (by omega)
    obtain ⟨r, hr, hrc⟩ := hget i l[i] (List.getElem?_eq_getElem (by omega))
    obtain ⟨ps, b1, l1, f1, b2, l2, f2, rfl, hps, ho, hn, hone⟩ := hrc.form
    have hmem : l[i] ∈ l := List.getElem_mem _
    have hsu1 := sum_take_succ (l.map costOf) i (by simp; omega)
    have hsu2 := sum_take_le (l.map costOf) (i + 1)
    rw [List.getElem_map] at hsu1
    have hcl := costOf_le (hk l[i] hmem).1 (hk l[i] hmem).2
    have hsi : ((l.map costOf).take i).sum ≤ 300 * i := sum300 l hk i
    have hcost : costOf l[i] = (if l[i].op = 1 ∨ l[i].op = 3 then tsz 60 l[i].old else 0) + (if l[i].op = 1 ∨ l[i].op = 2 then tsz 60 l[i].new else 0) := rfl
    have hz1 := (hk l[i] hmem).1.sz
    have hz2 := (hk l[i] hmem).2.sz
    refine wp_skip ?_
    refine wp_seq ?_
    refine wp_block ?_
    refine wp_seq ?_
    refine wp_region_lit ?_
    refine s_val rfl rfl (v_ia Try.underlying22 sz35 rfl hs6 hs8 (by omega) (by omega)) ?_
    refine s_val rfl rfl (v_load rfl rfl Try.underlying35 rfl sz35 (hr.up cx.ext) rfl) ?_
    refine s_alloc cx z35 rfl rfl rfl ?_; intro b5 w cx hb5 hw5
    refine s_storeAll cx 0 rfl rfl rfl rfl rfl rfl sz35 rfl (by exact hone) ?_; intro w cx hsz5
    refine wpList_nil ?_
    refine w_cut (fun f w1 => f 6 = .slice (some ⟨b, o, none⟩) l.length c ∧ f 7 = .int .i64 l.length ∧ f 8 = .int .i64 i ∧ f 5 = .pointer (some ⟨b5, 0, none⟩) ∧ f 3 = .int .i64 ((((l.map costOf).take i).sum : Nat) + (if l[i].op = 1 ∨ l[i].op = 3 then tsz 60 l[i].old else 0 : Nat)) ∧ Ctx w0 w1 [(b5, .cells (.int .i64 l[i].op :: ps :: .int .i64 l[i].pos :: (vrow l[i].old.sc b1 l1 f1 ++ vrow l[i].new.sc b2 l2 f2)).toArray 35)]) ?_ ?_
    · skip
      refine wp_seq ?_
      refine wp_region_lit ?_
      refine s_val rfl rfl (v_fa fa35_0 rfl rfl) ?_
      refine s_val rfl rfl (v_load1 rfl rfl Try.underlying3 rfl (cx.cell 0 rfl rfl)) ?_
      refine s_val rfl rfl (v_cmp rfl rfl rfl rfl) ?_
      refine s_val rfl rfl (v_move rfl rfl) ?_
      refine s_gval rfl rfl rfl (by first | exact w_ff rfl | exact w_gf rfl) (fun hc => v_fa fa35_0 rfl (by first | exact gve hc rfl | exact gve (and_l hc) rfl | exact gve (and_l (and_l hc)) rfl | rfl)) ?_
      refine s_gval rfl rfl rfl (by first | exact w_ff rfl | exact w_gf rfl) (fun hc => v_load1 rfl (by first | exact gve hc rfl | exact gve (and_l hc) rfl | exact gve (and_l (and_l hc)) rfl | rfl) Try.underlying3 rfl (cx.cell 0 rfl rfl)) ?_
      refine s_gval rfl rfl rfl (by first | exact w_ff rfl | exact w_gf rfl) (fun hc => v_cmp rfl (by first | exact gve hc rfl | exact gve (and_l hc) rfl | exact gve (and_l (and_l hc)) rfl | rfl) rfl rfl) ?_
      refine s_val rfl rfl (v_or rfl rfl rfl rfl) ?_
      refine wpList_nil ?_
      refine c_split rfl (fun hc19 => ?_) (fun hc19 => ?_)
      · skip
        try simp only [Bool.and_eq_true, Bool.or_eq_true, Bool.and_eq_false_iff, Bool.or_eq_false_iff, Bool.not_eq_true', Bool.not_eq_false', decide_eq_true_eq, decide_eq_false_iff_not, beq_iff_eq, beq_eq_false_iff_ne, bne_iff_ne, bne_eq_false_iff_eq, ne_eq, Classical.not_not] at hc19
        refine wp_region_lit ?_
        refine s_val rfl rfl (v_move rfl hs3) ?_
        refine s_val rfl rfl (v_fa fa35_3 rfl rfl) ?_
        refine s_val rfl rfl (v_load rfl rfl Try.underlying33 rfl sz33 ((cx.row 0 rfl).rv 3 rfl) rfl) ?_
        refine s_fnI cx (c48 _ _ _ (hk l[i] hmem).1.dp (by omega) ((ho.up cx.ext)) (hf l[i] hmem).1) Try.func48 rfl rfl rfl rfl rfl rfl ?_; intro q23 w cx hw23 hp23
        refine s_val rfl rfl (v_add rfl rfl rfl (by omega) (by omega)) ?_
        refine s_val rfl rfl (v_assign rfl rfl) ?_
        refine wpList_nil ?_
        refine ⟨_, rfl, hs6, hs7, hs8, rfl, ?_, cx⟩
        first
        | (rw [if_pos hc19]; show Value.int .i64 _ = _; congr 1; omega)
        | (rw [if_neg (by omega)]; exact hs3)
      · skip
        try simp only [Bool.and_eq_true, Bool.or_eq_true, Bool.and_eq_false_iff, Bool.or_eq_false_iff, Bool.not_eq_true', Bool.not_eq_false', decide_eq_true_eq, decide_eq_false_iff_not, beq_iff_eq, beq_eq_false_iff_ne, bne_iff_ne, bne_eq_false_iff_eq, ne_eq, Classical.not_not] at hc19
        refine wp_skip ?_
        refine ⟨_, rfl, hs6, hs7, hs8, rfl, ?_, cx⟩
        first
        | (rw [if_pos hc19]; show Value.int .i64 _ = _; congr 1; omega)
        | (rw [if_neg (by omega)]; exact hs3)
    intro f w hJ
    obtain ⟨hs6, hs7, hs8, hs5, hs3, cx⟩ := hJ
    refine wp_seq ?_
    refine wp_region_lit ?_
    refine s_val rfl rfl (v_fa fa35_0 rfl hs5) ?_
    refine s_val rfl rfl (v_load1 rfl rfl Try.underlying3 rfl (cx.cell 0 rfl rfl)) ?_
    refine s_val rfl rfl (v_cmp rfl rfl rfl rfl) ?_
    refine s_val rfl rfl (v_move rfl rfl) ?_
    refine s_gval rfl rfl rfl (by first | exact w_ff rfl | exact w_gf rfl) (fun hc => v_fa fa35_0 rfl hs5) ?_
    refine s_gval rfl rfl rfl (by first | exact w_ff rfl | exact w_gf rfl) (fun hc => v_load1 rfl (by first | exact gve hc rfl | exact gve (and_l hc) rfl | exact gve (and_l (and_l hc)) rfl | rfl) Try.underlying3 rfl (cx.cell 0 rfl rfl)) ?_
    refine s_gval rfl rfl rfl (by first | exact w_ff rfl | exact w_gf rfl) (fun hc => v_cmp rfl (by first | exact gve hc rfl | exact gve (and_l hc) rfl | exact gve (and_l (and_l hc)) rfl | rfl) rfl rfl) ?_
    refine s_val rfl rfl (v_or rfl rfl rfl rfl) ?_
    refine wpList_nil ?_
    refine c_split rfl (fun hc32 => ?_) (fun hc32 => ?_)
    · skip
      try simp only [Bool.and_eq_true, Bool.or_eq_true, Bool.and_eq_false_iff, Bool.or_eq_false_iff, Bool.not_eq_true', Bool.not_eq_false', decide_eq_true_eq, decide_eq_false_iff_not, beq_iff_eq, beq_eq_false_iff_ne, bne_iff_ne, bne_eq_false_iff_eq, ne_eq, Classical.not_not] at hc32
      refine wp_region_lit ?_
      refine s_val rfl rfl (v_move rfl hs3) ?_
      refine s_val rfl rfl (v_fa fa35_4 rfl hs5) ?_
      refine s_val rfl rfl (v_load rfl rfl Try.underlying33 rfl sz33 ((cx.row 0 rfl).rv 16 rfl) rfl) ?_
      refine s_fnI cx (c48 _ _ _ (hk l[i] hmem).2.dp (by omega) ((hn.up cx.ext)) (hf l[i] hmem).2) Try.func48 rfl rfl rfl rfl rfl rfl ?_; intro q36 w cx hw36 hp36
      refine s_val rfl rfl (v_add rfl rfl rfl (by omega) (by omega)) ?_
      refine s_val rfl rfl (v_assign rfl rfl) ?_
      refine wpList_nil ?_
      refine wp_region_lit ?_
      refine s_val rfl rfl (v_add rfl hs8 rfl (by omega) (by omega)) ?_
      refine s_val rfl rfl (v_move rfl rfl) ?_
      refine wpList_nil ?_
      refine ⟨gk3 - 1, _, by omega, rfl, i + 1, by omega, hs6, hs7, rfl, ?_, cx.drop 1⟩
      first
      | (show Value.int .i64 _ = _; congr 1; rw [hsu1, hcost, if_pos hc32]; omega)
      | (refine hs3.trans ?_; congr 1; rw [hsu1, hcost, if_neg (show ¬ (l[i].op = 1 ∨ l[i].op = 2) by omega)]; omega)
    · skip
      try simp only [Bool.and_eq_true, Bool.or_eq_true, Bool.and_eq_false_iff, Bool.or_eq_false_iff, Bool.not_eq_true', Bool.not_eq_false', decide_eq_true_eq, decide_eq_false_iff_not, beq_iff_eq, beq_eq_false_iff_ne, bne_iff_ne, bne_eq_false_iff_eq, ne_eq, Classical.not_not] at hc32
      refine wp_skip ?_
      refine wp_region_lit ?_
      refine s_val rfl rfl (v_add rfl hs8 rfl (by omega) (by omega)) ?_
      refine s_val rfl rfl (v_move rfl rfl) ?_
      refine wpList_nil ?_
      refine ⟨gk3 - 1, _, by omega, rfl, i + 1, by omega, hs6, hs7, rfl, ?_, cx.drop 1⟩
      first
      | (show Value.int .i64 _ = _; congr 1; rw [hsu1, hcost, if_pos hc32]; omega)
      | (refine hs3.trans ?_; congr 1; rw [hsu1, hcost, if_neg (show ¬ (l[i].op = 1 ∨ l[i].op = 2) by omega)]; omega)
  · skip
    try simp only [Bool.and_eq_true, Bool.or_eq_true, Bool.and_eq_false_iff, Bool.or_eq_false_iff, Bool.not_eq_true', Bool.not_eq_false', decide_eq_true_eq, decide_eq_false_iff_not, beq_iff_eq, beq_eq_false_iff_ne, bne_iff_ne, bne_eq_false_iff_eq, ne_eq, Classical.not_not] at hc9
    refine wp_exit ?_
    refine wp_seq ?_
    refine wp_region_lit ?_
    refine s_val rfl rfl (v_move rfl hs3) ?_
    refine s_val rfl rfl (v_assign rfl rfl) ?_
    refine wpList_nil ?_
    refine wp_ret ?_
    refine ret_tmp Try.results18 rfl ?_
    refine ⟨cx.ext, _, rfl, ?_⟩
    have hi : i = l.length := by omega
    subst hi
    rw [List.take_of_length_le (by simp)]

set_option maxRecDepth 10000 in
theorem c19 (l : List Ch) (s : Value) (w0 : World) (hv : Chs w0 s l) (hlen : l.length ≤ 50) (hf : ∀ c ∈ l, Fine c.old ∧ Fine c.new) (hk : ∀ c ∈ l, Okv 150 c.old ∧ Okv 150 c.new) : Fc Try.prog 19 [s] w0 (IsI fun m => m = (l.map costOf).sum) := by
  obtain ⟨a, c, b, o, rfl, hla, hget⟩ := hv.form
  refine ret_enter Try.func19 rfl Try.ntmps19 rfl ?_
  have cx := Ctx.start w0
  refine wp_seq ?_
  refine wp_region_lit ?_
  refine s_val rfl rfl (v_assign rfl rfl) ?_
  refine wpList_nil ?_
  refine wp_seq ?_
  refine wp_region_lit ?_
  refine s_val rfl rfl (v_assign rfl rfl) ?_
  refine wpList_nil ?_
  refine wp_seq ?_
  refine wp_seq ?_
  refine wp_region_lit ?_
  refine s_val rfl rfl (v_assign rfl rfl) ?_
  refine wpList_nil ?_
  refine wp_block ?_
  refine w_loop (fun k f w1 => ∃ i : Nat, k + i = l.length ∧ f 0 = .slice a l.length c ∧ f 4 = .int .i64 i ∧ f 3 = .int .i64 (((l.map costOf).take i).sum : Nat) ∧ Ctx w0 w1 []) (l.length) ?_ ?_
  · skip
    exact ⟨0, by omega, rfl, rfl, by simp; rfl, cx⟩
  intro gk3 f w hJ
  obtain ⟨i, hki, hs0, hs4, hs3, cx⟩ := hJ
  refine wp_seq ?_
  refine wp_seq ?_
  refine wp_region_lit ?_
  refine s_val rfl rfl (v_move rfl hs4) ?_
  refine s_val rfl rfl (v_move rfl hs0) ?_
  refine s_val rfl rfl (v_lenSlice rfl rfl Try.underlying22) ?_
  refine s_val rfl rfl (v_cmp rfl rfl rfl rfl) ?_
  refine wpList_nil ?_
  refine c_split rfl (fun hc8 => ?_) (fun hc8 => ?_)
  · skip
    try simp only [Bool.and_eq_true, Bool.or_eq_true, Bool.and_eq_false_iff, Bool.or_eq_false_iff, Bool.not_eq_true', Bool.not_eq_false', decide_eq_true_eq, decide_eq_false_iff_not, beq_iff_eq, beq_eq_false_iff_ne, bne_iff_ne, bne_eq_false_iff_eq, ne_eq, Classical.not_not] at hc8
    obtain rfl := hla (by omega)
    obtain ⟨r, hr, hrc⟩ := hget i l[i] (List.getElem?_eq_getElem (by omega))
    obtain ⟨ps, b1, l1, f1, b2, l2, f2, rfl, hps, ho, hn, hone⟩ := hrc.form
    have hmem : l[i] ∈ l := List.getElem_mem _
    have hsu1 := sum_take_succ (l.map costOf) i (by simp; omega)
    have hsu2 := sum_take_le (l.map costOf) (i + 1)
    rw [List.getElem_map] at hsu1
    have hcl := costOf_le (hk l[i] hmem).1 (hk l[i] hmem).2
    have hsi : ((l.map costOf).take i).sum ≤ 300 * i := sum300 l hk i
    have hcost : costOf l[i] = (if l[i].op = 1 ∨ l[i].op = 3 then tsz 60 l[i].old else 0) + (if l[i].op = 1 ∨ l[i].op = 2 then tsz 60 l[i].new else 0) := rfl
    have hz1 := (hk l[i] hmem).1.sz
    have hz2 := (hk l[i] hmem).2.sz
    have hz3 := (hk l[i] hmem).1.sz48
    have hz4 := (hk l[i] hmem).2.sz48
    refine wp_skip ?_
    refine wp_seq ?_
    refine wp_block ?_
    refine w_cut (fun f w1 => f 0 = .slice (some ⟨b, o, none⟩) l.length c ∧ f 4 = .int .i64 i ∧ f 3 = .int .i64 ((((l.map costOf).take i).sum : Nat) + (if l[i].op = 1 ∨ l[i].op = 3 then tsz 60 l[i].old else 0 : Nat)) ∧ Ctx w0 w1 []) ?_ ?_
    · skip
      refine wp_seq ?_
      refine wp_region_lit ?_
      refine s_val rfl rfl (v_move rfl hs0) ?_
      refine s_val rfl rfl (v_move rfl hs4) ?_
      refine s_val rfl rfl (v_ia Try.underlying22 sz35 rfl rfl rfl (by omega) (by omega)) ?_
      refine s_val rfl rfl (v_fa fa35_0 rfl rfl) ?_
      refine s_val rfl rfl (v_load1 rfl rfl Try.underlying3 rfl ((hr.up cx.ext).cell 0 rfl)) ?_
      refine s_val rfl rfl (v_cmp rfl rfl rfl rfl) ?_
      refine s_val rfl rfl (v_move rfl rfl) ?_
      refine s_gval rfl rfl rfl (by first | exact w_ff rfl | exact w_gf rfl) (fun hc => v_move rfl hs0) ?_
      refine s_gval rfl rfl rfl (by first | exact w_ff rfl | exact w_gf rfl) (fun hc => v_move rfl hs4) ?_
      refine s_gval rfl rfl rfl (by first | exact w_ff rfl | exact w_gf rfl) (fun hc => v_ia Try.underlying22 sz35 rfl (by first | exact gve hc rfl | exact gve (and_l hc) rfl | rfl) (by first | exact gve hc rfl | exact gve (and_l hc) rfl | rfl) (by omega) (by omega)) ?_
      refine s_gval rfl rfl rfl (by first | exact w_ff rfl | exact w_gf rfl) (fun hc => v_fa fa35_0 rfl (by first | exact gve hc rfl | exact gve (and_l hc) rfl | exact gve (and_l (and_l hc)) rfl | rfl)) ?_
      refine s_gval rfl rfl rfl (by first | exact w_ff rfl | exact w_gf rfl) (fun hc => v_load1 rfl (by first | exact gve hc rfl | exact gve (and_l hc) rfl | rfl) Try.underlying3 rfl ((hr.up cx.ext).cell 0 rfl)) ?_
      refine s_gval rfl rfl rfl (by first | exact w_ff rfl | exact w_gf rfl) (fun hc => v_cmp rfl (by first | exact gve hc rfl | exact gve (and_l hc) rfl | exact gve (and_l (and_l hc)) rfl | rfl) rfl rfl) ?_
      refine s_val rfl rfl (v_or rfl rfl rfl rfl) ?_
      refine wpList_nil ?_
      refine c_split rfl (fun hc24 => ?_) (fun hc24 => ?_)
      · skip
        try simp only [Bool.and_eq_true, Bool.or_eq_true, Bool.and_eq_false_iff, Bool.or_eq_false_iff, Bool.not_eq_true', Bool.not_eq_false', decide_eq_true_eq, decide_eq_false_iff_not, beq_iff_eq, beq_eq_false_iff_ne, bne_iff_ne, bne_eq_false_iff_eq, ne_eq, Classical.not_not] at hc24
        refine wp_region_lit ?_
        refine s_val rfl rfl (v_move rfl hs3) ?_
        refine s_val rfl rfl (v_move rfl hs0) ?_
        refine s_val rfl rfl (v_move rfl hs4) ?_
        refine s_val rfl rfl (v_ia Try.underlying22 sz35 rfl rfl rfl (by omega) (by omega)) ?_
        refine s_val rfl rfl (v_fa fa35_3 rfl rfl) ?_
        refine s_val rfl rfl (v_load rfl rfl Try.underlying33 rfl sz33 ((hr.up cx.ext).rv 3 rfl) rfl) ?_
        refine s_fnI cx (c49 48 _ _ _ (hk l[i] hmem).1.ok (by omega) ((ho.up cx.ext)) (hf l[i] hmem).1) Try.func49 rfl rfl rfl rfl rfl rfl ?_; intro q31 w cx hw31 hp31
        refine s_val rfl rfl (v_add rfl rfl rfl (by omega) (by omega)) ?_
        refine s_val rfl rfl (v_assign rfl rfl) ?_
        refine wpList_nil ?_
        refine ⟨_, rfl, hs0, hs4, ?_, cx⟩
        first
        | (rw [if_pos hc24]; show Value.int .i64 _ = _; congr 1; omega)
        | (rw [if_neg (by omega)]; exact hs3)
      · skip
        try simp only [Bool.and_eq_true, Bool.or_eq_true, Bool.and_eq_false_iff, Bool.or_eq_false_iff, Bool.not_eq_true', Bool.not_eq_false', decide_eq_true_eq, decide_eq_false_iff_not, beq_iff_eq, beq_eq_false_iff_ne, bne_iff_ne, bne_eq_false_iff_eq, ne_eq, Classical.not_not] at hc24
        refine wp_skip ?_
        refine ⟨_, rfl, hs0, hs4, ?_, cx⟩
        first
        | (rw [if_pos hc24]; show Value.int .i64 _ = _; congr 1; omega)
        | (rw [if_neg (by omega)]; exact hs3)
    intro f w hJ
    obtain ⟨hs0, hs4, hs3, cx⟩ := hJ
    refine wp_seq ?_
    refine wp_region_lit ?_
    refine s_val rfl rfl (v_move rfl hs0) ?_
    refine s_val rfl rfl (v_move rfl hs4) ?_
    refine s_val rfl rfl (v_ia Try.underlying22 sz35 rfl rfl rfl (by omega) (by omega)) ?_
    refine s_val rfl rfl (v_fa fa35_0 rfl rfl) ?_
    refine s_val rfl rfl (v_load1 rfl rfl Try.underlying3 rfl ((hr.up cx.ext).cell 0 rfl)) ?_
    refine s_val rfl rfl (v_cmp rfl rfl rfl rfl) ?_
    refine s_val rfl rfl (v_move rfl rfl) ?_
    refine s_gval rfl rfl rfl (by first | exact w_ff rfl | exact w_gf rfl) (fun hc => v_move rfl hs0) ?_
    refine s_gval rfl rfl rfl (by first | exact w_ff rfl | exact w_gf rfl) (fun hc => v_move rfl hs4) ?_
    refine s_gval rfl rfl rfl (by first | exact w_ff rfl | exact w_gf rfl) (fun hc => v_ia Try.underlying22 sz35 rfl (by first | exact gve hc rfl | exact gve (and_l hc) rfl | rfl) (by first | exact gve hc rfl | exact gve (and_l hc) rfl | rfl) (by omega) (by omega)) ?_
    refine s_gval rfl rfl rfl (by first | exact w_ff rfl | exact w_gf rfl) (fun hc => v_fa fa35_0 rfl (by first | exact gve hc rfl | exact gve (and_l hc) rfl | exact gve (and_l (and_l hc)) rfl | rfl)) ?_
    refine s_gval rfl rfl rfl (by first | exact w_ff rfl | exact w_gf rfl) (fun hc => v_load1 rfl (by first | exact gve hc rfl | exact gve (and_l hc) rfl | rfl) Try.underlying3 rfl ((hr.up cx.ext).cell 0 rfl)) ?_
    refine s_gval rfl rfl rfl (by first | exact w_ff rfl | exact w_gf rfl) (fun hc => v_cmp rfl (by first | exact gve hc rfl | exact gve (and_l hc) rfl | exact gve (and_l (and_l hc)) rfl | rfl) rfl rfl) ?_
    refine s_val rfl rfl (v_or rfl rfl rfl rfl) ?_
    refine wpList_nil ?_
    refine c_split rfl (fun hc46 => ?_) (fun hc46 => ?_)
    · skip
      try simp only [Bool.and_eq_true, Bool.or_eq_true, Bool.and_eq_false_iff, Bool.or_eq_false_iff, Bool.not_eq_true', Bool.not_eq_false', decide_eq_true_eq, decide_eq_false_iff_not, beq_iff_eq, beq_eq_false_iff_ne, bne_iff_ne, bne_eq_false_iff_eq, ne_eq, Classical.not_not] at hc46
      refine wp_region_lit ?_
      refine s_val rfl rfl (v_move rfl hs3) ?_
      refine s_val rfl rfl (v_move rfl hs0) ?_
      refine s_val rfl rfl (v_move rfl hs4) ?_
      refine s_val rfl rfl (v_ia Try.underlying22 sz35 rfl rfl rfl (by omega) (by omega)) ?_
      refine s_val rfl rfl (v_fa fa35_4 rfl rfl) ?_
      refine s_val rfl rfl (v_load rfl rfl Try.underlying33 rfl sz33 ((hr.up cx.ext).rv 16 rfl) rfl) ?_
      refine s_fnI cx (c49 48 _ _ _ (hk l[i] hmem).2.ok (by omega) ((hn.up cx.ext)) (hf l[i] hmem).2) Try.func49 rfl rfl rfl rfl rfl rfl ?_; intro q53 w cx hw53 hp53
      refine s_val rfl rfl (v_add rfl rfl rfl (by omega) (by omega)) ?_
      refine s_val rfl rfl (v_assign rfl rfl) ?_
      refine wpList_nil ?_
      refine wp_region_lit ?_
      refine s_val rfl rfl (v_move rfl hs4) ?_
      refine s_val rfl rfl (v_add rfl rfl rfl (by omega) (by omega)) ?_
      refine s_val rfl rfl (v_assign rfl rfl) ?_
      refine wpList_nil ?_
      refine ⟨gk3 - 1, _, by omega, rfl, i + 1, by omega, hs0, rfl, ?_, cx⟩
      first
      | (show Value.int .i64 _ = _; congr 1; rw [hsu1, hcost, if_pos hc46]; omega)
      | (refine hs3.trans ?_; congr 1; rw [hsu1, hcost, if_neg (show ¬ (l[i].op = 1 ∨ l[i].op = 2) by omega)]; omega)
    · skip
      try simp only [Bool.and_eq_true, Bool.or_eq_true, Bool.and_eq_false_iff, Bool.or_eq_false_iff, Bool.not_eq_true', Bool.not_eq_false', decide_eq_true_eq, decide_eq_false_iff_not, beq_iff_eq, beq_eq_false_iff_ne, bne_iff_ne, bne_eq_false_iff_eq, ne_eq, Classical.not_not] at hc46
      refine wp_skip ?_
      refine wp_region_lit ?_
      refine s_val rfl rfl (v_move rfl hs4) ?_
      refine s_val rfl rfl (v_add rfl rfl rfl (by omega) (by omega)) ?_
      refine s_val rfl rfl (v_assign rfl rfl) ?_
      refine wpList_nil ?_
      refine ⟨gk3 - 1, _, by omega, rfl, i + 1, by omega, hs0, rfl, ?_, cx⟩
      first
      | (show Value.int .i64 _ = _; congr 1; rw [hsu1, hcost, if_pos hc46]; omega)
      | (refine hs3.trans ?_; congr 1; rw [hsu1, hcost, if_neg (show ¬ (l[i].op = 1 ∨ l[i].op = 2) by omega)]; omega)
  · skip
    try simp only [Bool.and_eq_true, Bool.or_eq_true, Bool.and_eq_false_iff, Bool.or_eq_false_iff, Bool.not_eq_true', Bool.not_eq_false', decide_eq_true_eq, decide_eq_false_iff_not, beq_iff_eq, beq_eq_false_iff_ne, bne_iff_ne, bne_eq_false_iff_eq, ne_eq, Classical.not_not] at hc8
    refine wp_exit ?_
    refine wp_seq ?_
    refine wp_region_lit ?_
    refine s_val rfl rfl (v_move rfl hs3) ?_
    refine s_val rfl rfl (v_assign rfl rfl) ?_
    refine wpList_nil ?_
    refine wp_ret ?_
    refine ret_tmp Try.results19 rfl ?_
    refine ⟨cx.ext, _, rfl, ?_⟩
    have hi : i = l.length := by omega
    subst hi
    rw [List.take_of_length_le (by simp)]

set_option maxRecDepth 10000 in
theorem c3 (l : List Ch) (s : Value) (w0 : World) (hv : Chs w0 s l) (hlen : l.length ≤ 1048576) (hf : ∀ c ∈ l, Fine c.old ∧ Fine c.new) : Fc Try.prog 3 [s] w0 (IsB fun b => b = true) := by
  have hv0 := hv
  obtain ⟨a, c, b, o, rfl, hla, hget⟩ := hv.form
  refine ret_enter Try.func3 rfl Try.ntmps3 rfl ?_
  have cx := Ctx.start w0
  refine wp_seq ?_
  refine wp_region_lit ?_
  refine s_val rfl rfl (v_assign rfl rfl) ?_
  refine wpList_nil ?_
  refine wp_seq ?_
  refine wp_seq ?_
  refine wp_region_lit ?_
  refine s_val rfl rfl (v_move rfl rfl) ?_
  refine s_val rfl rfl (v_lenSlice rfl rfl Try.underlying22) ?_
  refine s_val rfl rfl (v_cmp rfl rfl rfl rfl) ?_
  refine wpList_nil ?_
  refine c_split rfl (fun hc6 => ?_) (fun hc6 => ?_)
  · skip
    try simp only [Bool.and_eq_true, Bool.or_eq_true, Bool.and_eq_false_iff, Bool.or_eq_false_iff, Bool.not_eq_true', Bool.not_eq_false', decide_eq_true_eq, decide_eq_false_iff_not, beq_iff_eq, beq_eq_false_iff_ne, bne_iff_ne, bne_eq_false_iff_eq, ne_eq, Classical.not_not] at hc6
    refine wp_seq ?_
    refine wp_region_lit ?_
    refine s_val rfl rfl (v_assign rfl rfl) ?_
    refine wpList_nil ?_
    refine wp_ret ?_
    refine ret_tmp Try.results3 rfl ?_
    exact ⟨cx.ext, _, rfl, rfl⟩
  · skip
    try simp only [Bool.and_eq_true, Bool.or_eq_true, Bool.and_eq_false_iff, Bool.or_eq_false_iff, Bool.not_eq_true', Bool.not_eq_false', decide_eq_true_eq, decide_eq_false_iff_not, beq_iff_eq, beq_eq_false_iff_ne, bne_iff_ne, bne_eq_false_iff_eq, ne_eq, Classical.not_not] at hc6
    refine wp_skip ?_
    refine wp_seq ?_
    refine wp_seq ?_
    refine wp_region_lit ?_
    refine s_val rfl rfl (v_assign rfl rfl) ?_
    refine wpList_nil ?_
    refine wp_block ?_
    refine w_loop (fun k f w1 => ∃ i : Nat, k + i = l.length ∧ f 0 = .slice a l.length c ∧ f 3 = .int .i64 i ∧ Ctx w0 w1 [] ∧ ∀ c ∈ l.take i, Okv 150 c.old ∧ Okv 150 c.new) (l.length) ?_ ?_
    · skip
      exact ⟨0, by omega, rfl, rfl, cx, by simp⟩
    intro gk4 f w hJ
    obtain ⟨i, hki, hs0, hs3, cx, hall⟩ := hJ
    refine wp_seq ?_
    refine wp_seq ?_
    refine wp_region_lit ?_
    refine s_val rfl rfl (v_move rfl hs3) ?_
    refine s_val rfl rfl (v_move rfl hs0) ?_
    refine s_val rfl rfl (v_lenSlice rfl rfl Try.underlying22) ?_
    refine s_val rfl rfl (v_cmp rfl rfl rfl rfl) ?_
    refine wpList_nil ?_
    refine c_split rfl (fun hc10 => ?_) (fun hc10 => ?_)
    · skip
      try simp only [Bool.and_eq_true, Bool.or_eq_true, Bool.and_eq_false_iff, Bool.or_eq_false_iff, Bool.not_eq_true', Bool.not_eq_false', decide_eq_true_eq, decide_eq_false_iff_not, beq_iff_eq, beq_eq_false_iff_ne, bne_iff_ne, bne_eq_false_iff_eq, ne_eq, Classical.not_not] at hc10
      obtain rfl := hla (by omega)
      obtain ⟨r, hr, hrc⟩ := hget i l[i] (List.getElem?_eq_getElem (by omega))
      obtain ⟨ps, b1, l1, f1, b2, l2, f2, rfl, hps, ho, hn, hone⟩ := hrc.form
      have hmem : l[i] ∈ l := List.getElem_mem _
      refine wp_skip ?_
      refine wp_seq ?_
      refine wp_block ?_
      refine wp_seq ?_
      refine wp_region_lit ?_
      refine s_val rfl rfl (v_move rfl hs0) ?_
      refine s_val rfl rfl (v_move rfl hs3) ?_
      refine s_val rfl rfl (v_ia Try.underlying22 sz35 rfl rfl rfl (by omega) (by omega)) ?_
      refine s_val rfl rfl (v_fa fa35_3 rfl rfl) ?_
      refine s_val rfl rfl (v_load rfl rfl Try.underlying33 rfl sz33 ((hr.up cx.ext).rv 3 rfl) rfl) ?_
      refine s_fnB cx (c17 _ _ _ (ho.up cx.ext) (hf l[i] hmem).1) Try.func17 rfl rfl rfl rfl rfl rfl ?_; intro q18 w cx hw18 hp18
      refine s_val rfl rfl (v_not rfl rfl) ?_
      refine s_val rfl rfl (v_move rfl rfl) ?_
      refine s_gval rfl rfl rfl (by first | exact w_ff rfl | exact w_gf rfl) (fun hc => v_move rfl hs0) ?_
      refine s_gval rfl rfl rfl (by first | exact w_ff rfl | exact w_gf rfl) (fun hc => v_move rfl hs3) ?_
      refine s_gval rfl rfl rfl (by first | exact w_ff rfl | exact w_gf rfl) (fun hc => v_ia Try.underlying22 sz35 rfl (by first | exact gve hc rfl | exact gve (and_l hc) rfl | rfl) (by first | exact gve hc rfl | exact gve (and_l hc) rfl | rfl) (by omega) (by omega)) ?_
      refine s_gval rfl rfl rfl (by first | exact w_ff rfl | exact w_gf rfl) (fun hc => v_fa fa35_4 rfl (by first | exact gve hc rfl | exact gve (and_l hc) rfl | exact gve (and_l (and_l hc)) rfl | rfl)) ?_
      refine s_gval rfl rfl rfl (by first | exact w_ff rfl | exact w_gf rfl) (fun hc => v_load rfl (by first | exact gve hc rfl | exact gve (and_l hc) rfl | rfl) Try.underlying33 rfl sz33 ((hr.up cx.ext).rv 16 rfl) rfl) ?_
      refine s_gfnB cx rfl rfl rfl (by first | exact w_ff rfl | exact w_gf rfl) (fun hc => c17 _ _ _ (hn.up cx.ext) (hf l[i] hmem).2) Try.func17 rfl rfl rfl (fun hc => (cons_eq (by first | exact gve hc rfl | exact gve (and_l hc) rfl | rfl) rfl)) ?_; intro q26 w cx hw26 hp26
      refine s_gval rfl rfl rfl (by first | exact w_ff rfl | exact w_gf rfl) (fun hc => v_not rfl (by first | exact gve hc rfl | exact gve (and_l hc) rfl | exact gve (and_l (and_l hc)) rfl | rfl)) ?_
      refine s_val rfl rfl (v_or rfl rfl rfl rfl) ?_
      refine wpList_nil ?_
      refine c_split rfl (fun hc28 => ?_) (fun hc28 => ?_)
      · skip
        try simp only [Bool.and_eq_true, Bool.or_eq_true, Bool.and_eq_false_iff, Bool.or_eq_false_iff, Bool.not_eq_true', Bool.not_eq_false', decide_eq_true_eq, decide_eq_false_iff_not, beq_iff_eq, beq_eq_false_iff_ne, bne_iff_ne, bne_eq_false_iff_eq, ne_eq, Classical.not_not] at hc28
        refine wp_seq ?_
        refine wp_region_lit ?_
        refine s_val rfl rfl (v_assign rfl rfl) ?_
        refine wpList_nil ?_
        refine wp_ret ?_
        refine ret_tmp Try.results3 rfl ?_
        exact ⟨cx.ext, _, rfl, rfl⟩
      · skip
        try simp only [Bool.and_eq_true, Bool.or_eq_true, Bool.and_eq_false_iff, Bool.or_eq_false_iff, Bool.not_eq_true', Bool.not_eq_false', decide_eq_true_eq, decide_eq_false_iff_not, beq_iff_eq, beq_eq_false_iff_ne, bne_iff_ne, bne_eq_false_iff_eq, ne_eq, Classical.not_not] at hc28
        refine wp_skip ?_
        refine wp_region_lit ?_
        refine s_val rfl rfl (v_move rfl hs3) ?_
        refine s_val rfl rfl (v_add rfl rfl rfl (by omega) (by omega)) ?_
        refine s_val rfl rfl (v_assign rfl rfl) ?_
        refine wpList_nil ?_
        refine ⟨gk4 - 1, _, by omega, rfl, i + 1, by omega, hs0, rfl, cx, ?_⟩
        intro c hc
        rw [List.take_succ_eq_append_getElem (by omega)] at hc
        rcases List.mem_append.1 hc with hc | hc
        · exact hall c hc
        · simp at hc
          subst hc
          have h1 := hp18 hc28.1
          have h2 := hp26 (by simp [hc28.1]) hc28.2
          exact ⟨⟨h1.1, h1.2.1, h1.2.2⟩, ⟨h2.1, h2.2.1, h2.2.2⟩⟩
    · skip
      try simp only [Bool.and_eq_true, Bool.or_eq_true, Bool.and_eq_false_iff, Bool.or_eq_false_iff, Bool.not_eq_true', Bool.not_eq_false', decide_eq_true_eq, decide_eq_false_iff_not, beq_iff_eq, beq_eq_false_iff_ne, bne_iff_ne, bne_eq_false_iff_eq, ne_eq, Classical.not_not] at hc10
      refine wp_exit ?_
      refine wp_seq ?_
      refine wp_region_lit ?_
      have hi : i = l.length := by omega
      have hok : ∀ c ∈ l, Okv 150 c.old ∧ Okv 150 c.new := by
        intro c hc
        refine hall c ?_
        rw [hi, List.take_length]; exact hc
      refine s_val rfl rfl (v_move rfl hs0) ?_
      refine s_fnI cx (c18 l _ _ (hv.up cx.ext) (by omega) hf hok) Try.func18 rfl rfl rfl rfl rfl rfl ?_; intro q30 w cx hw30 hp30
      refine s_val rfl rfl (v_move rfl hs0) ?_
      refine s_fnI cx (c19 l _ _ (hv.up cx.ext) (by omega) hf hok) Try.func19 rfl rfl rfl rfl rfl rfl ?_; intro q32 w cx hw32 hp32
      refine s_val rfl rfl (v_cmp rfl rfl rfl rfl) ?_
      refine s_val rfl rfl (v_assign rfl rfl) ?_
      refine wpList_nil ?_
      refine wp_ret ?_
      refine ret_tmp Try.results3 rfl ?_
      refine ⟨cx.ext, _, rfl, ?_⟩
      rw [hp30, hp32]; simp
end Go.Proofs.Ytmkihcdcgkdilaa
