/-
  The columns of an index.
-/
import Derived.Test.YthiafbkolhnadaaGreatDoorGt
import Derived.Test.YthiafbkolhnadaaGreatDoorGb
import Derived.Test.YthiafbkolhnadaaGreatDoorBf
import Derived.Test.YthiafbkolhnadaaGreatDoorPn
set_option linter.unusedSimpArgs false
set_option linter.unusedVariables false
namespace Go.Proofs.YthiafbkolhnadaaGreatDoor
open Go Go.Dk Go.RowKit Go.Lib
attribute [local irreducible] Go.wpList Go.Code.wp Go.bodyPost Go.wpStill
set_option maxHeartbeats 4000000 in
set_option maxRecDepth 10000 in
theorem c39 (v : Value) (l : List ByteArray) (w0 : World) (hv : Cls w0 v l) (ht : Tabs w0) (hl : l.length ≤ 140737488355328) (hsz : ∀ c ∈ l, c.size ≤ 1073741824) : Fc Tryz.prog 39 [v] w0 (IsI fun m => m = colsE l) := by
  obtain ⟨a, c, b, o, rfl, ha, hr⟩ := hv.form
  refine ret_enter Tryz.func39 rfl Tryz.ntmps39 rfl ?_
  have cx := Ctx.start w0
  refine wp_seq ?_
  refine wp_region_lit ?_
  refine s_val rfl rfl (v_assign rfl rfl) ?_
  refine wpList_nil ?_
  refine wp_seq ?_
  refine wp_seq ?_
  refine wp_region_lit ?_
  refine s_val rfl rfl (v_move rfl rfl) ?_
  refine s_val rfl rfl (v_lenSlice rfl rfl Tryz.underlying33) ?_
  refine s_val rfl rfl (v_move rfl rfl) ?_
  refine wpList_nil ?_
  refine wp_block ?_
  refine w_loop (fun k f w1 => ∃ i : Nat, k + i = l.length ∧ f 0 = .slice a l.length c ∧ f 8 = .slice a l.length c ∧ f 9 = .int .i64 l.length ∧ f 10 = .int .i64 i ∧ (∀ x ∈ l.take i, ¬ colBad x) ∧ Ctx w0 w1 []) (l.length) ?_ ?_
  · skip
    exact ⟨0, by omega, rfl, rfl, rfl, rfl, by simp, cx⟩
  intro gk2 f w hJ
  obtain ⟨i, hk, hs0, hs8, hs9, hs10, hall, cx⟩ := hJ
  refine wp_seq ?_
  refine wp_region_lit ?_
  refine s_val rfl rfl (v_cmp rfl hs10 hs9 rfl) ?_
  refine wpList_nil ?_
  refine wp_seq ?_
  refine c_split rfl (fun hc11 => ?_) (fun hc11 => ?_)
  · skip
    try simp only [Bool.and_eq_true, Bool.or_eq_true, Bool.and_eq_false_iff, Bool.or_eq_false_iff, Bool.not_eq_true', Bool.not_eq_false', decide_eq_true_eq, decide_eq_false_iff_not, beq_iff_eq, beq_eq_false_iff_ne, bne_iff_ne, bne_eq_false_iff_eq, ne_eq, Classical.not_not] at hc11
    obtain ⟨x, hx⟩ : ∃ x, l[i]? = some x := ⟨l[i]'(by omega), List.getElem?_eq_getElem _⟩
    have hrw := hr i x hx
    obtain rfl := ha (by omega)
    refine wp_skip ?_
    refine wp_seq ?_
    refine wp_block ?_
    refine wp_seq ?_
    refine wp_region_lit ?_
    refine s_val rfl rfl (v_ia Tryz.underlying33 sz9 rfl hs8 hs10 (by omega) (by omega)) ?_
    refine s_val rfl rfl (v_load1 rfl rfl Tryz.underlying9 rfl ((hrw.up cx.ext).cell 0 rfl)) ?_
    refine s_val rfl rfl (v_assign rfl rfl) ?_
    refine wpList_nil ?_
    refine wp_seq ?_
    refine wp_region_lit ?_
    refine s_val rfl rfl (v_move rfl rfl) ?_
    refine s_fnB cx (c91 x _ (ht.up cx.ext) (by have := hsz x (List.mem_of_getElem? hx); omega)) Tryz.func91 rfl rfl rfl rfl rfl rfl ?_; intro q15 w cx hw15 hp15
    refine s_val rfl rfl (v_not rfl rfl) ?_
    refine s_val rfl rfl (v_move rfl rfl) ?_
    refine s_gval rfl rfl rfl (by first | exact w_ff rfl | exact w_gf rfl) (fun hc => v_move rfl (by first | exact gve hc rfl | exact gve (and_l hc) rfl | exact gve (and_l (and_l hc)) rfl | rfl)) ?_
    refine s_gval rfl rfl rfl (by first | exact w_ff rfl | exact w_gf rfl) (fun hc => v_lenString rfl (by first | exact gve hc rfl | exact gve (and_l hc) rfl | exact gve (and_l (and_l hc)) rfl | rfl) Tryz.underlying9) ?_
    refine s_gval rfl rfl rfl (by first | exact w_ff rfl | exact w_gf rfl) (fun hc => v_cmp rfl (by first | exact gve hc rfl | exact gve (and_l hc) rfl | exact gve (and_l (and_l hc)) rfl | rfl) rfl rfl) ?_
    refine s_val rfl rfl (v_or rfl rfl rfl rfl) ?_
    refine wpList_nil ?_
    refine c_split rfl (fun hc21 => ?_) (fun hc21 => ?_)
    · skip
      try simp only [Bool.and_eq_true, Bool.or_eq_true, Bool.and_eq_false_iff, Bool.or_eq_false_iff, Bool.not_eq_true', Bool.not_eq_false', decide_eq_true_eq, decide_eq_false_iff_not, beq_iff_eq, beq_eq_false_iff_ne, bne_iff_ne, bne_eq_false_iff_eq, ne_eq, Classical.not_not] at hc21
      have hb : colBad x := by
        unfold colBad
        rcases hc21 with h | h
        · left; rw [← hp15]; exact h
        · right; omega
      refine wp_seq ?_
      refine wp_region_lit ?_
      refine s_val rfl rfl (v_assign rfl rfl) ?_
      refine wpList_nil ?_
      refine wp_ret ?_
      refine ret_tmp Tryz.results39 rfl ?_
      refine ⟨cx.ext, _, rfl, ?_⟩
      exact (colsE_1 hx hb).symm
    · skip
      try simp only [Bool.and_eq_true, Bool.or_eq_true, Bool.and_eq_false_iff, Bool.or_eq_false_iff, Bool.not_eq_true', Bool.not_eq_false', decide_eq_true_eq, decide_eq_false_iff_not, beq_iff_eq, beq_eq_false_iff_ne, bne_iff_ne, bne_eq_false_iff_eq, ne_eq, Classical.not_not] at hc21
      have hcB : validD x.data.toList = true ∧ x.size ≤ 1024 := by
        refine ⟨?_, by omega⟩
        rw [← hp15]
        exact hc21.1
      refine wp_skip ?_
      refine wp_region_lit ?_
      refine s_val rfl rfl (v_add rfl hs10 rfl (by omega) (by omega)) ?_
      refine s_val rfl rfl (v_move rfl rfl) ?_
      refine wpList_nil ?_
      refine ⟨gk2 - 1, _, by omega, rfl, i + 1, by omega, hs0, hs8, hs9, rfl, fun y hy => ?_, cx⟩
      rcases mem_take_succ hx hy with h | rfl
      · exact hall y h
      · unfold colBad
        rintro (h | h)
        · rw [hcB.1] at h; cases h
        · have := hcB.2; omega
  · skip
    try simp only [Bool.and_eq_true, Bool.or_eq_true, Bool.and_eq_false_iff, Bool.or_eq_false_iff, Bool.not_eq_true', Bool.not_eq_false', decide_eq_true_eq, decide_eq_false_iff_not, beq_iff_eq, beq_eq_false_iff_ne, bne_iff_ne, bne_eq_false_iff_eq, ne_eq, Classical.not_not] at hc11
    have hi0 : i = l.length := by omega
    subst hi0
    rw [List.take_length] at hall
    refine wp_exit ?_
    refine wp_seq ?_
    refine wp_region_lit ?_
    refine s_makeMap cx rfl rfl rfl ?_; intro b23 w cx hb23 hw23
    refine s_val rfl rfl (v_assign rfl rfl) ?_
    refine wpList_nil ?_
    refine wp_seq ?_
    refine wp_seq ?_
    refine wp_region_lit ?_
    refine s_val rfl rfl (v_move rfl hs0) ?_
    refine s_val rfl rfl (v_lenSlice rfl rfl Tryz.underlying33) ?_
    refine s_val rfl rfl (v_move rfl rfl) ?_
    refine wpList_nil ?_
    refine wp_block ?_
    refine w_loop (fun k f w1 => ∃ (i b23 : Nat), k + i = l.length ∧ f 5 = .map (some b23) ∧ f 24 = .slice a l.length c ∧ f 25 = .int .i64 l.length ∧ f 26 = .int .i64 i ∧ (l.take i).Nodup ∧ Ctx w0 w1 [(b23, .map (ents (l.take i) tt 0).toArray (l.take i).length)]) (l.length) ?_ ?_
    · skip
      exact ⟨0, b23, by omega, rfl, rfl, rfl, rfl, by simp, cx⟩
    intro gk9 f w hJ
    obtain ⟨i, b23, hk, hs5, hs24, hs25, hs26, hnod, cx⟩ := hJ
    refine wp_seq ?_
    refine wp_region_lit ?_
    refine s_val rfl rfl (v_cmp rfl hs26 hs25 rfl) ?_
    refine wpList_nil ?_
    refine wp_seq ?_
    refine c_split rfl (fun hc27 => ?_) (fun hc27 => ?_)
    · skip
      try simp only [Bool.and_eq_true, Bool.or_eq_true, Bool.and_eq_false_iff, Bool.or_eq_false_iff, Bool.not_eq_true', Bool.not_eq_false', decide_eq_true_eq, decide_eq_false_iff_not, beq_iff_eq, beq_eq_false_iff_ne, bne_iff_ne, bne_eq_false_iff_eq, ne_eq, Classical.not_not] at hc27
      obtain ⟨x, hx⟩ : ∃ x, l[i]? = some x := ⟨l[i]'(by omega), List.getElem?_eq_getElem _⟩
      have hrw := hr i x hx
      obtain rfl := ha (by omega)
      refine wp_skip ?_
      refine wp_seq ?_
      refine wp_block ?_
      refine wp_seq ?_
      refine wp_region_lit ?_
      refine s_val rfl rfl (v_ia Tryz.underlying33 sz9 rfl hs24 hs26 (by omega) (by omega)) ?_
      refine s_val rfl rfl (v_load1 rfl rfl Tryz.underlying9 rfl ((hrw.up cx.ext).cell 0 rfl)) ?_
      refine s_val rfl rfl (v_assign rfl rfl) ?_
      refine wpList_nil ?_
      refine wp_seq ?_
      refine wp_seq ?_
      refine wp_region_lit ?_
      refine s_val rfl rfl (v_move rfl hs5) ?_
      refine s_val rfl rfl (v_move rfl rfl) ?_
      refine s_val rfl rfl (v_lookupT rfl rfl rfl Tryz.underlying102 Tryz.underlying9 (Tryz.zeroValue4 _) (cx.at 0 rfl)) ?_
      refine wpList_nil ?_
      refine c_split rfl (fun hc32 => ?_) (fun hc32 => ?_)
      · skip
        try simp only [Bool.and_eq_true, Bool.or_eq_true, Bool.and_eq_false_iff, Bool.or_eq_false_iff, Bool.not_eq_true', Bool.not_eq_false', decide_eq_true_eq, decide_eq_false_iff_not, beq_iff_eq, beq_eq_false_iff_ne, bne_iff_ne, bne_eq_false_iff_eq, ne_eq, Classical.not_not] at hc32
        refine wp_seq ?_
        refine wp_region_lit ?_
        refine s_val rfl rfl (v_assign rfl rfl) ?_
        refine wpList_nil ?_
        refine wp_ret ?_
        refine ret_tmp Tryz.results39 rfl ?_
        refine ⟨cx.ext, _, rfl, ?_⟩
        exact (colsE_8 hall hx (hasK_iff.1 hc32)).symm
      · skip
        try simp only [Bool.and_eq_true, Bool.or_eq_true, Bool.and_eq_false_iff, Bool.or_eq_false_iff, Bool.not_eq_true', Bool.not_eq_false', decide_eq_true_eq, decide_eq_false_iff_not, beq_iff_eq, beq_eq_false_iff_ne, bne_iff_ne, bne_eq_false_iff_eq, ne_eq, Classical.not_not] at hc32
        refine wp_skip ?_
        refine wp_region_lit ?_
        refine s_val rfl rfl (v_move rfl hs5) ?_
        refine s_val rfl rfl (v_move rfl rfl) ?_
        refine s_mapSetT cx 0 rfl rfl rfl rfl rfl rfl Tryz.underlying102 Tryz.underlying9 hnod rfl hc32 ?_; intro w cx hgr13
        refine wpList_nil ?_
        refine wp_region_lit ?_
        refine s_val rfl rfl (v_add rfl hs26 rfl (by omega) (by omega)) ?_
        refine s_val rfl rfl (v_move rfl rfl) ?_
        refine wpList_nil ?_
        have hnm := hasK_F hc32
        refine ⟨gk9 - 1, _, by omega, rfl, i + 1, b23, by omega, hs5, hs24, hs25, rfl, nodup_snoc hnod hx hnm, ?_⟩
        rw [take_snoc hx]
        exact cx
    · skip
      try simp only [Bool.and_eq_true, Bool.or_eq_true, Bool.and_eq_false_iff, Bool.or_eq_false_iff, Bool.not_eq_true', Bool.not_eq_false', decide_eq_true_eq, decide_eq_false_iff_not, beq_iff_eq, beq_eq_false_iff_ne, bne_iff_ne, bne_eq_false_iff_eq, ne_eq, Classical.not_not] at hc27
      refine wp_exit ?_
      refine wp_seq ?_
      refine wp_region_lit ?_
      refine s_val rfl rfl (v_assign rfl rfl) ?_
      refine wpList_nil ?_
      refine wp_ret ?_
      refine ret_tmp Tryz.results39 rfl ?_
      refine ⟨cx.ext, _, rfl, ?_⟩
      have hi1 : i = l.length := by omega
      subst hi1
      rw [List.take_length] at hnod
      exact (colsE_0 hall hnod).symm

set_option maxHeartbeats 4000000 in
set_option maxRecDepth 10000 in
theorem c42 (v : Value) (l : List ByteArray) (w0 : World) (hv : Cls w0 v l) (hl : l.length ≤ 140737488355328) (hsz : ∀ c ∈ l, c.size ≤ 1073741824) : Fc Tryz.prog 42 [v] w0 (IsI fun m => m = colsE l) := by
  obtain ⟨a, c, b, o, rfl, ha, hr⟩ := hv.form
  refine ret_enter Tryz.func42 rfl Tryz.ntmps42 rfl ?_
  have cx := Ctx.start w0
  refine wp_seq ?_
  refine wp_region_lit ?_
  refine s_val rfl rfl (v_assign rfl rfl) ?_
  refine wpList_nil ?_
  refine wp_seq ?_
  refine wp_seq ?_
  refine wp_region_lit ?_
  refine s_val rfl rfl (v_assign rfl rfl) ?_
  refine wpList_nil ?_
  refine wp_block ?_
  refine w_loop (fun k f w1 => ∃ i : Nat, k + i = l.length ∧ f 0 = .slice a l.length c ∧ f 3 = .int .i64 i ∧ (∀ x ∈ l.take i, ¬ colBad x) ∧ Ctx w0 w1 []) (l.length) ?_ ?_
  · skip
    exact ⟨0, by omega, rfl, rfl, by simp, cx⟩
  intro gk2 f w hJ
  obtain ⟨i, hk, hs0, hs3, hall, cx⟩ := hJ
  refine wp_seq ?_
  refine wp_seq ?_
  refine wp_region_lit ?_
  refine s_val rfl rfl (v_move rfl hs3) ?_
  refine s_val rfl rfl (v_move rfl hs0) ?_
  refine s_val rfl rfl (v_lenSlice rfl rfl Tryz.underlying33) ?_
  refine s_val rfl rfl (v_cmp rfl rfl rfl rfl) ?_
  refine wpList_nil ?_
  refine c_split rfl (fun hc9 => ?_) (fun hc9 => ?_)
  · skip
    try simp only [Bool.and_eq_true, Bool.or_eq_true, Bool.and_eq_false_iff, Bool.or_eq_false_iff, Bool.not_eq_true', Bool.not_eq_false', decide_eq_true_eq, decide_eq_false_iff_not, beq_iff_eq, beq_eq_false_iff_ne, bne_iff_ne, bne_eq_false_iff_eq, ne_eq, Classical.not_not] at hc9
    obtain ⟨x, hx⟩ : ∃ x, l[i]? = some x := ⟨l[i]'(by omega), List.getElem?_eq_getElem _⟩
    have hrw := hr i x hx
    obtain rfl := ha (by omega)
    refine wp_skip ?_
    refine wp_seq ?_
    refine wp_block ?_
    refine wp_seq ?_
    refine wp_region_lit ?_
    refine s_val rfl rfl (v_move rfl hs0) ?_
    refine s_val rfl rfl (v_move rfl hs3) ?_
    refine s_val rfl rfl (v_ia Tryz.underlying33 sz9 rfl rfl rfl (by omega) (by omega)) ?_
    refine s_val rfl rfl (v_load1 rfl rfl Tryz.underlying9 rfl ((hrw.up cx.ext).cell 0 rfl)) ?_
    refine s_fnB cx (c44 x _ (by have := hsz x (List.mem_of_getElem? hx); omega)) Tryz.func44 rfl rfl rfl rfl rfl rfl ?_; intro q16 w cx hw16 hp16
    refine s_val rfl rfl (v_not rfl rfl) ?_
    refine s_val rfl rfl (v_move rfl rfl) ?_
    refine s_gval rfl rfl rfl (by first | exact w_ff rfl | exact w_gf rfl) (fun hc => v_move rfl hs0) ?_
    refine s_gval rfl rfl rfl (by first | exact w_ff rfl | exact w_gf rfl) (fun hc => v_move rfl hs3) ?_
    refine s_gval rfl rfl rfl (by first | exact w_ff rfl | exact w_gf rfl) (fun hc => v_ia Tryz.underlying33 sz9 rfl (by first | exact gve hc rfl | exact gve (and_l hc) rfl | exact gve (and_l (and_l hc)) rfl | rfl) (by first | exact gve hc rfl | exact gve (and_l hc) rfl | exact gve (and_l (and_l hc)) rfl | rfl) (by first | omega | (simp only [Bool.and_eq_true, Bool.or_eq_true, Bool.and_eq_false_iff, Bool.or_eq_false_iff, Bool.not_eq_true', Bool.not_eq_false', decide_eq_true_eq, decide_eq_false_iff_not, beq_iff_eq, beq_eq_false_iff_ne, bne_iff_ne, bne_eq_false_iff_eq, ne_eq, Classical.not_not] at hc; omega)) (by first | omega | (simp only [Bool.and_eq_true, Bool.or_eq_true, Bool.and_eq_false_iff, Bool.or_eq_false_iff, Bool.not_eq_true', Bool.not_eq_false', decide_eq_true_eq, decide_eq_false_iff_not, beq_iff_eq, beq_eq_false_iff_ne, bne_iff_ne, bne_eq_false_iff_eq, ne_eq, Classical.not_not] at hc; omega))) ?_
    refine s_gval rfl rfl rfl (by first | exact w_ff rfl | exact w_gf rfl) (fun hc => v_load1 rfl (by first | exact gve hc rfl | exact gve (and_l hc) rfl | exact gve (and_l (and_l hc)) rfl | rfl) Tryz.underlying9 rfl ((hrw.up cx.ext).cell 0 rfl)) ?_
    refine s_gval rfl rfl rfl (by first | exact w_ff rfl | exact w_gf rfl) (fun hc => v_lenString rfl (by first | exact gve hc rfl | exact gve (and_l hc) rfl | exact gve (and_l (and_l hc)) rfl | rfl) Tryz.underlying9) ?_
    refine s_gval rfl rfl rfl (by first | exact w_ff rfl | exact w_gf rfl) (fun hc => v_cmp rfl (by first | exact gve hc rfl | exact gve (and_l hc) rfl | exact gve (and_l (and_l hc)) rfl | rfl) rfl rfl) ?_
    refine s_val rfl rfl (v_or rfl rfl rfl rfl) ?_
    refine wpList_nil ?_
    refine c_split rfl (fun hc25 => ?_) (fun hc25 => ?_)
    · skip
      try simp only [Bool.and_eq_true, Bool.or_eq_true, Bool.and_eq_false_iff, Bool.or_eq_false_iff, Bool.not_eq_true', Bool.not_eq_false', decide_eq_true_eq, decide_eq_false_iff_not, beq_iff_eq, beq_eq_false_iff_ne, bne_iff_ne, bne_eq_false_iff_eq, ne_eq, Classical.not_not] at hc25
      have hb : colBad x := by
        unfold colBad
        rcases hc25 with h | h
        · left; rw [← hp16]; exact h
        · right; omega
      refine wp_seq ?_
      refine wp_region_lit ?_
      refine s_val rfl rfl (v_assign rfl rfl) ?_
      refine wpList_nil ?_
      refine wp_ret ?_
      refine ret_tmp Tryz.results42 rfl ?_
      refine ⟨cx.ext, _, rfl, ?_⟩
      exact (colsE_1 hx hb).symm
    · skip
      try simp only [Bool.and_eq_true, Bool.or_eq_true, Bool.and_eq_false_iff, Bool.or_eq_false_iff, Bool.not_eq_true', Bool.not_eq_false', decide_eq_true_eq, decide_eq_false_iff_not, beq_iff_eq, beq_eq_false_iff_ne, bne_iff_ne, bne_eq_false_iff_eq, ne_eq, Classical.not_not] at hc25
      have hcB : validD x.data.toList = true ∧ x.size ≤ 1024 := by
        refine ⟨?_, by omega⟩
        rw [← hp16]
        exact hc25.1
      refine wp_skip ?_
      refine wp_region_lit ?_
      refine s_val rfl rfl (v_move rfl hs3) ?_
      refine s_val rfl rfl (v_add rfl rfl rfl (by omega) (by omega)) ?_
      refine s_val rfl rfl (v_assign rfl rfl) ?_
      refine wpList_nil ?_
      refine ⟨gk2 - 1, _, by omega, rfl, i + 1, by omega, hs0, rfl, fun y hy => ?_, cx⟩
      rcases mem_take_succ hx hy with h | rfl
      · exact hall y h
      · unfold colBad
        rintro (h | h)
        · rw [hcB.1] at h; cases h
        · have := hcB.2; omega
  · skip
    try simp only [Bool.and_eq_true, Bool.or_eq_true, Bool.and_eq_false_iff, Bool.or_eq_false_iff, Bool.not_eq_true', Bool.not_eq_false', decide_eq_true_eq, decide_eq_false_iff_not, beq_iff_eq, beq_eq_false_iff_ne, bne_iff_ne, bne_eq_false_iff_eq, ne_eq, Classical.not_not] at hc9
    have hi0 : i = l.length := by omega
    subst hi0
    rw [List.take_length] at hall
    refine wp_exit ?_
    refine wp_seq ?_
    refine wp_seq ?_
    refine wp_region_lit ?_
    refine s_val rfl rfl (v_assign rfl rfl) ?_
    refine wpList_nil ?_
    refine wp_block ?_
    refine w_loop (fun k f w1 => ∃ i : Nat, k + i = l.length ∧ f 0 = .slice a l.length c ∧ f 4 = .int .i64 i ∧ (l.take i).Nodup ∧ Ctx w0 w1 []) (l.length) ?_ ?_
    · skip
      exact ⟨0, by omega, hs0, rfl, by simp, cx⟩
    intro gk7 f w hJ
    obtain ⟨i, hk, hs0, hs4, hnod, cx⟩ := hJ
    refine wp_seq ?_
    refine wp_seq ?_
    refine wp_region_lit ?_
    refine s_val rfl rfl (v_move rfl hs4) ?_
    refine s_val rfl rfl (v_move rfl hs0) ?_
    refine s_val rfl rfl (v_lenSlice rfl rfl Tryz.underlying33) ?_
    refine s_val rfl rfl (v_cmp rfl rfl rfl rfl) ?_
    refine wpList_nil ?_
    refine c_split rfl (fun hc29 => ?_) (fun hc29 => ?_)
    · skip
      try simp only [Bool.and_eq_true, Bool.or_eq_true, Bool.and_eq_false_iff, Bool.or_eq_false_iff, Bool.not_eq_true', Bool.not_eq_false', decide_eq_true_eq, decide_eq_false_iff_not, beq_iff_eq, beq_eq_false_iff_ne, bne_iff_ne, bne_eq_false_iff_eq, ne_eq, Classical.not_not] at hc29
      obtain ⟨x, hx⟩ : ∃ x, l[i]? = some x := ⟨l[i]'(by omega), List.getElem?_eq_getElem _⟩
      have hrw := hr i x hx
      obtain rfl := ha (by omega)
      refine wp_skip ?_
      refine wp_seq ?_
      refine wp_block ?_
      refine wp_seq ?_
      refine wp_region_lit ?_
      refine s_val rfl rfl (v_assign rfl rfl) ?_
      refine wpList_nil ?_
      refine wp_block ?_
      refine w_loop (fun k f w1 => ∃ j : Nat, k + j = i ∧ f 0 = .slice (some ⟨b, o, none⟩) l.length c ∧ f 4 = .int .i64 i ∧ f 5 = .int .i64 j ∧ (∀ (n : Nat) y, n < j → l[n]? = some y → x ≠ y) ∧ Ctx w0 w1 []) (i) ?_ ?_
      · skip
        exact ⟨0, by omega, hs0, hs4, rfl, fun n y h => by omega, cx⟩
      intro gk10 f w hJ
      obtain ⟨j, hkj, hs0, hs4, hs5, hne, cx⟩ := hJ
      refine wp_seq ?_
      refine wp_seq ?_
      refine wp_region_lit ?_
      refine s_val rfl rfl (v_move rfl hs5) ?_
      refine s_val rfl rfl (v_move rfl hs4) ?_
      refine s_val rfl rfl (v_cmp rfl rfl rfl rfl) ?_
      refine wpList_nil ?_
      refine c_split rfl (fun hc34 => ?_) (fun hc34 => ?_)
      · skip
        try simp only [Bool.and_eq_true, Bool.or_eq_true, Bool.and_eq_false_iff, Bool.or_eq_false_iff, Bool.not_eq_true', Bool.not_eq_false', decide_eq_true_eq, decide_eq_false_iff_not, beq_iff_eq, beq_eq_false_iff_ne, bne_iff_ne, bne_eq_false_iff_eq, ne_eq, Classical.not_not] at hc34
        obtain ⟨y, hy⟩ : ∃ y, l[j]? = some y := ⟨l[j]'(by omega), List.getElem?_eq_getElem _⟩
        have hrw2 := hr j y hy
        refine wp_skip ?_
        refine wp_seq ?_
        refine wp_block ?_
        refine wp_seq ?_
        refine w_still cx mixed (by kernel_rfl) ?_; intro w cx hwD12
        skip
        refine t_val rfl rfl (v_move rfl hs0) ?_
        refine t_val rfl rfl (v_move rfl hs4) ?_
        refine t_val rfl rfl (v_ia Tryz.underlying33 sz9 rfl rfl rfl (by omega) (by omega)) ?_
        refine t_val rfl rfl (v_load1 rfl rfl Tryz.underlying9 rfl ((hrw.up cx.ext).cell 0 rfl)) ?_
        refine t_val rfl rfl (v_move rfl hs0) ?_
        refine t_val rfl rfl (v_move rfl hs5) ?_
        refine t_val rfl rfl (v_ia Tryz.underlying33 sz9 rfl rfl rfl (by omega) (by omega)) ?_
        refine t_val rfl rfl (v_load1 rfl rfl Tryz.underlying9 rfl ((hrw2.up cx.ext).cell 0 rfl)) ?_
        refine t_val rfl rfl (v_strEq rfl rfl rfl) ?_
        refine t_nil ?_
        refine c_split rfl (fun hc45 => ?_) (fun hc45 => ?_)
        · skip
          try simp only [Bool.and_eq_true, Bool.or_eq_true, Bool.and_eq_false_iff, Bool.or_eq_false_iff, Bool.not_eq_true', Bool.not_eq_false', decide_eq_true_eq, decide_eq_false_iff_not, beq_iff_eq, beq_eq_false_iff_ne, bne_iff_ne, bne_eq_false_iff_eq, ne_eq, Classical.not_not] at hc45
          refine wp_seq ?_
          refine wp_region_lit ?_
          refine s_val rfl rfl (v_assign rfl rfl) ?_
          refine wpList_nil ?_
          refine wp_ret ?_
          refine ret_tmp Tryz.results42 rfl ?_
          refine ⟨cx.ext, _, rfl, ?_⟩
          refine (colsE_8 hall hx ?_).symm
          rw [hc45]
          exact List.mem_of_getElem? (i := j) (by rw [List.getElem?_take, if_pos (by omega)]; exact hy)
        · skip
          try simp only [Bool.and_eq_true, Bool.or_eq_true, Bool.and_eq_false_iff, Bool.or_eq_false_iff, Bool.not_eq_true', Bool.not_eq_false', decide_eq_true_eq, decide_eq_false_iff_not, beq_iff_eq, beq_eq_false_iff_ne, bne_iff_ne, bne_eq_false_iff_eq, ne_eq, Classical.not_not] at hc45
          refine wp_skip ?_
          refine wp_region_lit ?_
          refine s_val rfl rfl (v_move rfl hs5) ?_
          refine s_val rfl rfl (v_add rfl rfl rfl (by omega) (by omega)) ?_
          refine s_val rfl rfl (v_assign rfl rfl) ?_
          refine wpList_nil ?_
          refine ⟨gk10 - 1, _, by omega, rfl, j + 1, by omega, hs0, hs4, rfl, fun n z hn hz => ?_, cx⟩
          rcases Nat.lt_or_ge n j with h | h
          · exact hne n z h hz
          · obtain rfl : n = j := by omega
            rw [hy] at hz; cases hz
            exact hc45
      · skip
        try simp only [Bool.and_eq_true, Bool.or_eq_true, Bool.and_eq_false_iff, Bool.or_eq_false_iff, Bool.not_eq_true', Bool.not_eq_false', decide_eq_true_eq, decide_eq_false_iff_not, beq_iff_eq, beq_eq_false_iff_ne, bne_iff_ne, bne_eq_false_iff_eq, ne_eq, Classical.not_not] at hc34
        refine wp_exit ?_
        refine wp_region_lit ?_
        refine s_val rfl rfl (v_move rfl hs4) ?_
        refine s_val rfl rfl (v_add rfl rfl rfl (by omega) (by omega)) ?_
        refine s_val rfl rfl (v_assign rfl rfl) ?_
        refine wpList_nil ?_
        have hnm : x ∉ l.take i := fun hm => by
          obtain ⟨n, hn⟩ := List.getElem?_of_mem hm
          rw [List.getElem?_take] at hn
          split at hn
          · exact hne n x (by omega) hn rfl
          · cases hn
        refine ⟨gk7 - 1, _, by omega, rfl, i + 1, by omega, hs0, rfl, nodup_snoc hnod hx hnm, cx⟩
    · skip
      try simp only [Bool.and_eq_true, Bool.or_eq_true, Bool.and_eq_false_iff, Bool.or_eq_false_iff, Bool.not_eq_true', Bool.not_eq_false', decide_eq_true_eq, decide_eq_false_iff_not, beq_iff_eq, beq_eq_false_iff_ne, bne_iff_ne, bne_eq_false_iff_eq, ne_eq, Classical.not_not] at hc29
      refine wp_exit ?_
      refine wp_seq ?_
      refine wp_region_lit ?_
      refine s_val rfl rfl (v_assign rfl rfl) ?_
      refine wpList_nil ?_
      refine wp_ret ?_
      refine ret_tmp Tryz.results42 rfl ?_
      refine ⟨cx.ext, _, rfl, ?_⟩
      have hi1 : i = l.length := by omega
      subst hi1
      rw [List.take_length] at hnod
      exact (colsE_0 hall hnod).symm

end Go.Proofs.YthiafbkolhnadaaGreatDoor
