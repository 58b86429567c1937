/-
  Paths: equality, prefixes; spans.
-/
import Derived.Test.YthiafbkolhnadaaGreatDoorGa
import Derived.Test.YthiafbkolhnadaaGreatDoorPx
import Derived.Test.YthiafbkolhnadaaGreatDoorBd
set_option linter.unusedSimpArgs false
set_option linter.unusedVariables false
namespace Go.Proofs.YthiafbkolhnadaaGreatDoor
open Go Go.Dk Go.RowKit Go.Lib
attribute [local irreducible] Go.wpList Go.Code.wp Go.bodyPost Go.wpStill
set_option maxRecDepth 10000 in
theorem c20 (v u : Value) (l m : List Stp) (w0 : World) (hv : Pth w0 v l) (hu : Pth w0 u m) (hl : l.length ≤ 140737488355328) (hm : m.length ≤ 140737488355328) : Fc Tryz.prog 20 [v, u] w0 (IsB fun b => b = true ↔ l = m) := by
  obtain ⟨a, c, b, o, rfl, ha, hr⟩ := hv.form
  obtain ⟨a', c', b', o', rfl, ha', hr'⟩ := hu.form
  refine ret_enter Tryz.func20 rfl Tryz.ntmps20 rfl ?_
  have cx := Ctx.start w0
  refine wp_seq ?_
  refine wp_region_lit ?_
  refine s_val rfl rfl (v_assign rfl rfl) ?_
  refine wpList_nil ?_
  refine wp_seq ?_
  refine wp_seq ?_
  refine wp_region_lit ?_
  refine s_val rfl rfl (v_move rfl rfl) ?_
  refine s_val rfl rfl (v_lenSlice rfl rfl Tryz.underlying28) ?_
  refine s_val rfl rfl (v_move rfl rfl) ?_
  refine s_val rfl rfl (v_lenSlice rfl rfl Tryz.underlying28) ?_
  refine s_val rfl rfl (v_cmp rfl rfl rfl rfl) ?_
  refine wpList_nil ?_
  refine c_split rfl (fun hc10 => ?_) (fun hc10 => ?_)
  · skip
    try simp only [Bool.and_eq_true, Bool.or_eq_true, Bool.and_eq_false_iff, Bool.or_eq_false_iff, Bool.not_eq_true', Bool.not_eq_false', decide_eq_true_eq, decide_eq_false_iff_not, beq_iff_eq, beq_eq_false_iff_ne, bne_iff_ne, bne_eq_false_iff_eq, ne_eq, Classical.not_not] at hc10
    refine wp_seq ?_
    refine wp_region_lit ?_
    refine s_val rfl rfl (v_assign rfl rfl) ?_
    refine wpList_nil ?_
    refine wp_ret ?_
    refine ret_tmp Tryz.results20 rfl ?_
    refine ⟨cx.ext, _, rfl, (fun h => by cases h), fun h => ?_⟩
    subst h
    exact absurd rfl (by omega)
  · skip
    try simp only [Bool.and_eq_true, Bool.or_eq_true, Bool.and_eq_false_iff, Bool.or_eq_false_iff, Bool.not_eq_true', Bool.not_eq_false', decide_eq_true_eq, decide_eq_false_iff_not, beq_iff_eq, beq_eq_false_iff_ne, bne_iff_ne, bne_eq_false_iff_eq, ne_eq, Classical.not_not] at hc10
    refine wp_skip ?_
    refine wp_seq ?_
    refine wp_seq ?_
    refine wp_region_lit ?_
    refine s_val rfl rfl (v_assign rfl rfl) ?_
    refine wpList_nil ?_
    refine wp_block ?_
    refine w_loop (fun k f w1 => ∃ i : Nat, k + i = l.length ∧ f 0 = .slice a l.length c ∧ f 1 = .slice a' m.length c' ∧ f 5 = .int .i64 i ∧ l.take i = m.take i ∧ Ctx w0 w1 []) (l.length) ?_ ?_
    · skip
      exact ⟨0, by omega, rfl, rfl, rfl, by simp, cx⟩
    intro gk4 f w hJ
    obtain ⟨i, hk, hs0, hs1, hs5, hall, cx⟩ := hJ
    refine wp_seq ?_
    refine wp_seq ?_
    refine wp_region_lit ?_
    refine s_val rfl rfl (v_move rfl hs5) ?_
    refine s_val rfl rfl (v_move rfl hs0) ?_
    refine s_val rfl rfl (v_lenSlice rfl rfl Tryz.underlying28) ?_
    refine s_val rfl rfl (v_cmp rfl rfl rfl rfl) ?_
    refine wpList_nil ?_
    refine c_split rfl (fun hc14 => ?_) (fun hc14 => ?_)
    · skip
      try simp only [Bool.and_eq_true, Bool.or_eq_true, Bool.and_eq_false_iff, Bool.or_eq_false_iff, Bool.not_eq_true', Bool.not_eq_false', decide_eq_true_eq, decide_eq_false_iff_not, beq_iff_eq, beq_eq_false_iff_ne, bne_iff_ne, bne_eq_false_iff_eq, ne_eq, Classical.not_not] at hc14
      obtain ⟨x, hx⟩ : ∃ x, l[i]? = some x := ⟨l[i]'(by omega), List.getElem?_eq_getElem _⟩
      obtain ⟨y, hy⟩ : ∃ y, m[i]? = some y := ⟨m[i]'(by omega), List.getElem?_eq_getElem _⟩
      have hrx := hr i x hx
      have hry := hr' i y hy
      obtain rfl := ha (by omega)
      obtain rfl := ha' (by omega)
      refine wp_skip ?_
      refine wp_seq ?_
      refine wp_block ?_
      refine wp_seq ?_
      refine w_still cx mixed (by kernel_rfl) ?_; intro w cx hwD6
      skip
      refine t_val rfl rfl (v_move rfl hs0) ?_
      refine t_val rfl rfl (v_move rfl hs5) ?_
      refine t_val rfl rfl (v_ia Tryz.underlying28 sz107 rfl rfl rfl (by omega) (by omega)) ?_
      refine t_val rfl rfl (v_load rfl rfl Tryz.underlying107 rfl sz107 (hrx.up cx.ext) rfl) ?_
      refine t_val rfl rfl (v_move rfl hs1) ?_
      refine t_val rfl rfl (v_move rfl hs5) ?_
      refine t_val rfl rfl (v_ia Tryz.underlying28 sz107 rfl rfl rfl (by omega) (by omega)) ?_
      refine t_val rfl rfl (v_load rfl rfl Tryz.underlying107 rfl sz107 (hry.up cx.ext) rfl) ?_
      refine t_val rfl rfl (v_agg eqg107 (ne107 _ _ _ _ _ _) rfl rfl rfl) ?_
      refine t_nil ?_
      refine c_split rfl (fun hc25 => ?_) (fun hc25 => ?_)
      · skip
        try simp only [Bool.and_eq_true, Bool.or_eq_true, Bool.and_eq_false_iff, Bool.or_eq_false_iff, Bool.not_eq_true', Bool.not_eq_false', decide_eq_true_eq, decide_eq_false_iff_not, beq_iff_eq, beq_eq_false_iff_ne, bne_iff_ne, bne_eq_false_iff_eq, ne_eq, Classical.not_not] at hc25
        refine wp_seq ?_
        refine wp_region_lit ?_
        refine s_val rfl rfl (v_assign rfl rfl) ?_
        refine wpList_nil ?_
        refine wp_ret ?_
        refine ret_tmp Tryz.results20 rfl ?_
        refine ⟨cx.ext, _, rfl, (fun h => by cases h), fun h => ?_⟩
        subst h
        rw [hx] at hy
        cases hy
        simp at hc25
      · skip
        try simp only [Bool.and_eq_true, Bool.or_eq_true, Bool.and_eq_false_iff, Bool.or_eq_false_iff, Bool.not_eq_true', Bool.not_eq_false', decide_eq_true_eq, decide_eq_false_iff_not, beq_iff_eq, beq_eq_false_iff_ne, bne_iff_ne, bne_eq_false_iff_eq, ne_eq, Classical.not_not] at hc25
        refine wp_skip ?_
        refine wp_region_lit ?_
        refine s_val rfl rfl (v_move rfl hs5) ?_
        refine s_val rfl rfl (v_add rfl rfl rfl (by omega) (by omega)) ?_
        refine s_val rfl rfl (v_assign rfl rfl) ?_
        refine wpList_nil ?_
        refine ⟨gk4 - 1, _, by omega, rfl, i + 1, by omega, hs0, hs1, rfl, ?_, cx⟩
        obtain ⟨hi, e⟩ := List.getElem?_eq_some_iff.1 hx
        obtain ⟨hi', e'⟩ := List.getElem?_eq_some_iff.1 hy
        rw [List.take_succ_eq_append_getElem hi, List.take_succ_eq_append_getElem hi', hall, e, e']
        congr 2
        obtain ⟨x1, x2, x3⟩ := x
        obtain ⟨y1, y2, y3⟩ := y
        simp at hc25
        simp [hc25]
    · skip
      try simp only [Bool.and_eq_true, Bool.or_eq_true, Bool.and_eq_false_iff, Bool.or_eq_false_iff, Bool.not_eq_true', Bool.not_eq_false', decide_eq_true_eq, decide_eq_false_iff_not, beq_iff_eq, beq_eq_false_iff_ne, bne_iff_ne, bne_eq_false_iff_eq, ne_eq, Classical.not_not] at hc14
      refine wp_exit ?_
      refine wp_seq ?_
      refine wp_region_lit ?_
      refine s_val rfl rfl (v_assign rfl rfl) ?_
      refine wpList_nil ?_
      refine wp_ret ?_
      refine ret_tmp Tryz.results20 rfl ?_
      refine ⟨cx.ext, _, rfl, fun _ => ?_, fun _ => rfl⟩
      have e : i = l.length := by omega
      subst e
      rw [List.take_length] at hall
      rw [hall, show l.length = m.length by omega, List.take_length]

set_option maxRecDepth 10000 in
theorem c45 (v u : Value) (l m : List Stp) (w0 : World) (hv : Pth w0 v l) (hu : Pth w0 u m) (hl : l.length ≤ 140737488355328) (hm : m.length ≤ 140737488355328) : Fc Tryz.prog 45 [v, u] w0 (IsB fun b => b = true ↔ l = m) := by
  obtain ⟨a, c, b, o, rfl, ha, hr⟩ := hv.form
  obtain ⟨a', c', b', o', rfl, ha', hr'⟩ := hu.form
  refine ret_enter Tryz.func45 rfl Tryz.ntmps45 rfl ?_
  have cx := Ctx.start w0
  refine wp_seq ?_
  refine wp_region_lit ?_
  refine s_val rfl rfl (v_assign rfl rfl) ?_
  refine wpList_nil ?_
  refine wp_seq ?_
  refine wp_seq ?_
  refine wp_region_lit ?_
  refine s_val rfl rfl (v_move rfl rfl) ?_
  refine s_val rfl rfl (v_lenSlice rfl rfl Tryz.underlying28) ?_
  refine s_val rfl rfl (v_move rfl rfl) ?_
  refine s_val rfl rfl (v_lenSlice rfl rfl Tryz.underlying28) ?_
  refine s_val rfl rfl (v_cmp rfl rfl rfl rfl) ?_
  refine wpList_nil ?_
  refine c_split rfl (fun hc10 => ?_) (fun hc10 => ?_)
  · skip
    try simp only [Bool.and_eq_true, Bool.or_eq_true, Bool.and_eq_false_iff, Bool.or_eq_false_iff, Bool.not_eq_true', Bool.not_eq_false', decide_eq_true_eq, decide_eq_false_iff_not, beq_iff_eq, beq_eq_false_iff_ne, bne_iff_ne, bne_eq_false_iff_eq, ne_eq, Classical.not_not] at hc10
    refine wp_seq ?_
    refine wp_region_lit ?_
    refine s_val rfl rfl (v_assign rfl rfl) ?_
    refine wpList_nil ?_
    refine wp_ret ?_
    refine ret_tmp Tryz.results45 rfl ?_
    refine ⟨cx.ext, _, rfl, (fun h => by cases h), fun h => ?_⟩
    subst h
    exact absurd rfl (by omega)
  · skip
    try simp only [Bool.and_eq_true, Bool.or_eq_true, Bool.and_eq_false_iff, Bool.or_eq_false_iff, Bool.not_eq_true', Bool.not_eq_false', decide_eq_true_eq, decide_eq_false_iff_not, beq_iff_eq, beq_eq_false_iff_ne, bne_iff_ne, bne_eq_false_iff_eq, ne_eq, Classical.not_not] at hc10
    refine wp_skip ?_
    refine wp_seq ?_
    refine wp_seq ?_
    refine wp_region_lit ?_
    refine s_val rfl rfl (v_move rfl rfl) ?_
    refine s_val rfl rfl (v_lenSlice rfl rfl Tryz.underlying28) ?_
    refine s_val rfl rfl (v_move rfl rfl) ?_
    refine wpList_nil ?_
    refine wp_block ?_
    refine w_loop (fun k f w1 => ∃ i : Nat, k + i = l.length ∧ f 0 = .slice a l.length c ∧ f 1 = .slice a' m.length c' ∧ f 12 = .int .i64 l.length ∧ f 13 = .int .i64 i ∧ l.take i = m.take i ∧ Ctx w0 w1 []) (l.length) ?_ ?_
    · skip
      exact ⟨0, by omega, rfl, rfl, rfl, rfl, by simp, cx⟩
    intro gk4 f w hJ
    obtain ⟨i, hk, hs0, hs1, hs12, hs13, hall, cx⟩ := hJ
    refine wp_seq ?_
    refine wp_region_lit ?_
    refine s_val rfl rfl (v_cmp rfl hs13 hs12 rfl) ?_
    refine wpList_nil ?_
    refine wp_seq ?_
    refine c_split rfl (fun hc14 => ?_) (fun hc14 => ?_)
    · skip
      try simp only [Bool.and_eq_true, Bool.or_eq_true, Bool.and_eq_false_iff, Bool.or_eq_false_iff, Bool.not_eq_true', Bool.not_eq_false', decide_eq_true_eq, decide_eq_false_iff_not, beq_iff_eq, beq_eq_false_iff_ne, bne_iff_ne, bne_eq_false_iff_eq, ne_eq, Classical.not_not] at hc14
      obtain ⟨x, hx⟩ : ∃ x, l[i]? = some x := ⟨l[i]'(by omega), List.getElem?_eq_getElem _⟩
      obtain ⟨y, hy⟩ : ∃ y, m[i]? = some y := ⟨m[i]'(by omega), List.getElem?_eq_getElem _⟩
      have hrx := hr i x hx
      have hry := hr' i y hy
      obtain rfl := ha (by omega)
      obtain rfl := ha' (by omega)
      refine wp_skip ?_
      refine wp_seq ?_
      refine wp_block ?_
      refine wp_seq ?_
      refine wp_region_lit ?_
      refine s_val rfl rfl (v_move rfl hs13) ?_
      refine s_val rfl rfl (v_assign rfl rfl) ?_
      refine wpList_nil ?_
      refine wp_seq ?_
      refine w_still cx mixed (by kernel_rfl) ?_; intro w cx hwD6
      skip
      refine t_val rfl rfl (v_move rfl hs0) ?_
      refine t_val rfl rfl (v_move rfl rfl) ?_
      refine t_val rfl rfl (v_ia Tryz.underlying28 sz107 rfl rfl rfl (by omega) (by omega)) ?_
      refine t_val rfl rfl (v_load rfl rfl Tryz.underlying107 rfl sz107 (hrx.up cx.ext) rfl) ?_
      refine t_val rfl rfl (v_move rfl hs1) ?_
      refine t_val rfl rfl (v_move rfl rfl) ?_
      refine t_val rfl rfl (v_ia Tryz.underlying28 sz107 rfl rfl rfl (by omega) (by omega)) ?_
      refine t_val rfl rfl (v_load rfl rfl Tryz.underlying107 rfl sz107 (hry.up cx.ext) rfl) ?_
      refine t_val rfl rfl (v_agg eqg107 (ne107 _ _ _ _ _ _) rfl rfl rfl) ?_
      refine t_nil ?_
      refine c_split rfl (fun hc24 => ?_) (fun hc24 => ?_)
      · skip
        try simp only [Bool.and_eq_true, Bool.or_eq_true, Bool.and_eq_false_iff, Bool.or_eq_false_iff, Bool.not_eq_true', Bool.not_eq_false', decide_eq_true_eq, decide_eq_false_iff_not, beq_iff_eq, beq_eq_false_iff_ne, bne_iff_ne, bne_eq_false_iff_eq, ne_eq, Classical.not_not] at hc24
        refine wp_seq ?_
        refine wp_region_lit ?_
        refine s_val rfl rfl (v_assign rfl rfl) ?_
        refine wpList_nil ?_
        refine wp_ret ?_
        refine ret_tmp Tryz.results45 rfl ?_
        refine ⟨cx.ext, _, rfl, (fun h => by cases h), fun h => ?_⟩
        subst h
        rw [hx] at hy
        cases hy
        simp at hc24
      · skip
        try simp only [Bool.and_eq_true, Bool.or_eq_true, Bool.and_eq_false_iff, Bool.or_eq_false_iff, Bool.not_eq_true', Bool.not_eq_false', decide_eq_true_eq, decide_eq_false_iff_not, beq_iff_eq, beq_eq_false_iff_ne, bne_iff_ne, bne_eq_false_iff_eq, ne_eq, Classical.not_not] at hc24
        refine wp_skip ?_
        refine wp_region_lit ?_
        refine s_val rfl rfl (v_add rfl hs13 rfl (by omega) (by omega)) ?_
        refine s_val rfl rfl (v_move rfl rfl) ?_
        refine wpList_nil ?_
        refine ⟨gk4 - 1, _, by omega, rfl, i + 1, by omega, hs0, hs1, hs12, rfl, ?_, cx⟩
        obtain ⟨hi, e⟩ := List.getElem?_eq_some_iff.1 hx
        obtain ⟨hi', e'⟩ := List.getElem?_eq_some_iff.1 hy
        rw [List.take_succ_eq_append_getElem hi, List.take_succ_eq_append_getElem hi', hall, e, e']
        congr 2
        obtain ⟨x1, x2, x3⟩ := x
        obtain ⟨y1, y2, y3⟩ := y
        simp at hc24
        simp [hc24]
    · skip
      try simp only [Bool.and_eq_true, Bool.or_eq_true, Bool.and_eq_false_iff, Bool.or_eq_false_iff, Bool.not_eq_true', Bool.not_eq_false', decide_eq_true_eq, decide_eq_false_iff_not, beq_iff_eq, beq_eq_false_iff_ne, bne_iff_ne, bne_eq_false_iff_eq, ne_eq, Classical.not_not] at hc14
      refine wp_exit ?_
      refine wp_seq ?_
      refine wp_region_lit ?_
      refine s_val rfl rfl (v_assign rfl rfl) ?_
      refine wpList_nil ?_
      refine wp_ret ?_
      refine ret_tmp Tryz.results45 rfl ?_
      refine ⟨cx.ext, _, rfl, fun _ => ?_, fun _ => rfl⟩
      have e : i = l.length := by omega
      subst e
      rw [List.take_length] at hall
      rw [hall, show l.length = m.length by omega, List.take_length]

set_option maxRecDepth 10000 in
theorem c46 (v u : Value) (l m : List Stp) (w0 : World) (hv : Pth w0 v l) (hu : Pth w0 u m) (hl : l.length ≤ 140737488355328) (hm : m.length ≤ 140737488355328) : Fc Tryz.prog 46 [v, u] w0 (IsB fun b => b = true ↔ m.length ≤ l.length ∧ l.take m.length = m) := by
  obtain ⟨a, c, rfl, hcap⟩ := hv.sl
  obtain ⟨a', c', rfl, hcap'⟩ := hu.sl
  refine ret_enter Tryz.func46 rfl Tryz.ntmps46 rfl ?_
  have cx := Ctx.start w0
  refine wp_seq ?_
  refine wp_region_lit ?_
  refine s_val rfl rfl (v_assign rfl rfl) ?_
  refine wpList_nil ?_
  refine wp_seq ?_
  refine wp_region_lit ?_
  refine s_val rfl rfl (v_move rfl rfl) ?_
  refine s_val rfl rfl (v_lenSlice rfl rfl Tryz.underlying28) ?_
  refine s_val rfl rfl (v_move rfl rfl) ?_
  refine s_val rfl rfl (v_lenSlice rfl rfl Tryz.underlying28) ?_
  refine s_val rfl rfl (v_cmp rfl rfl rfl rfl) ?_
  refine s_val rfl rfl (v_move rfl rfl) ?_
  refine s_gval rfl rfl rfl (by first | exact w_tt rfl | exact w_gt rfl) (fun hc => v_move rfl (by first | exact gve hc rfl | exact gve (and_l hc) rfl | exact gve (and_l (and_l hc)) rfl | rfl)) ?_
  refine s_gval rfl rfl rfl (by first | exact w_tt rfl | exact w_gt rfl) (fun hc => v_move rfl (by first | exact gve hc rfl | exact gve (and_l hc) rfl | exact gve (and_l (and_l hc)) rfl | rfl)) ?_
  refine s_gval rfl rfl rfl (by first | exact w_tt rfl | exact w_gt rfl) (fun hc => v_lenSlice rfl (by first | exact gve hc rfl | exact gve (and_l hc) rfl | exact gve (and_l (and_l hc)) rfl | rfl) Tryz.underlying28) ?_
  refine s_gval rfl rfl rfl (by first | exact w_tt rfl | exact w_gt rfl) (fun hc => v_preSl rfl (by first | exact gve hc rfl | rfl) (by first | exact gve hc rfl | rfl) Tryz.underlying28 sz107 (by omega) (by first | omega | (simp only [Bool.and_eq_true, Bool.or_eq_true, Bool.and_eq_false_iff, Bool.or_eq_false_iff, Bool.not_eq_true', Bool.not_eq_false', decide_eq_true_eq, decide_eq_false_iff_not, beq_iff_eq, beq_eq_false_iff_ne, bne_iff_ne, bne_eq_false_iff_eq, ne_eq, Classical.not_not] at hc; omega))) ?_
  refine s_gval rfl rfl rfl (by first | exact w_tt rfl | exact w_gt rfl) (fun hc => v_move rfl (by first | exact gve hc rfl | exact gve (and_l hc) rfl | exact gve (and_l (and_l hc)) rfl | rfl)) ?_
  refine s_gfnB cx rfl rfl rfl (by first | exact w_tt rfl | exact w_gt rfl) (fun hc => c45 _ _ _ _ _ ((hv.up cx.ext).take (k := m.length) (by simp only [Bool.and_eq_true, Bool.or_eq_true, Bool.and_eq_false_iff, Bool.or_eq_false_iff, Bool.not_eq_true', Bool.not_eq_false', decide_eq_true_eq, decide_eq_false_iff_not, beq_iff_eq, beq_eq_false_iff_ne, bne_iff_ne, bne_eq_false_iff_eq, ne_eq, Classical.not_not] at hc; omega)) (hu.up cx.ext) (by simp; omega) (by omega)) Tryz.func45 rfl rfl rfl (fun hc => cons_eq (by first | exact gve hc rfl | rfl) (cons_eq (by first | exact gve hc rfl | rfl) rfl)) ?_; intro q16 w cx hw16 hp16
  refine s_val rfl rfl (v_and rfl rfl rfl rfl) ?_
  refine s_val rfl rfl (v_assign rfl rfl) ?_
  refine wpList_nil ?_
  refine wp_ret ?_
  refine ret_tmp Tryz.results46 rfl ?_
  refine ⟨cx.ext, _, rfl, ?_⟩
  simp only [Bool.and_eq_true, decide_eq_true_eq]
  constructor
  · rintro ⟨h1, h2⟩
    have h3 : m.length ≤ l.length := by omega
    exact ⟨h3, (hp16 (decide_eq_true h1)).1 h2⟩
  · rintro ⟨h1, h2⟩
    have h3 : (m.length : Int) ≤ (l.length : Int) := by omega
    exact ⟨h3, (hp16 (decide_eq_true h3)).2 h2⟩

set_option maxRecDepth 10000 in
theorem c43 (a b n : Int) (w0 : World) : Fc Tryz.prog 43 [.agg #[.int .i64 a, .int .i64 b], .int .i64 n] w0 (IsB fun r => r = true ↔ 0 ≤ a ∧ a ≤ b ∧ b ≤ n) := by
  refine ret_enter Tryz.func43 rfl Tryz.ntmps43 rfl ?_
  have cx := Ctx.start w0
  refine wp_seq ?_
  refine wp_region_lit ?_
  refine s_box cx rfl rfl rfl rfl rfl ?_; intro b2 w cx hb2 hw2
  refine s_val rfl rfl (v_assign rfl rfl) ?_
  refine wpList_nil ?_
  refine wp_seq ?_
  refine wp_region_lit ?_
  refine s_val rfl rfl (v_fa fa48_0 rfl rfl) ?_
  refine s_val rfl rfl (v_load1 rfl rfl Tryz.underlying3 rfl (cx.cell 0 rfl rfl)) ?_
  refine s_val rfl rfl (v_cmp rfl rfl rfl rfl) ?_
  refine s_val rfl rfl (v_move rfl rfl) ?_
  refine s_gval rfl rfl rfl (by first | exact w_tt rfl | exact w_gt rfl) (fun hc => v_fa fa48_0 rfl (by first | exact gve hc rfl | exact gve (and_l hc) rfl | exact gve (and_l (and_l hc)) rfl | rfl)) ?_
  refine s_gval rfl rfl rfl (by first | exact w_tt rfl | exact w_gt rfl) (fun hc => v_load1 rfl (by first | exact gve hc rfl | exact gve (and_l hc) rfl | exact gve (and_l (and_l hc)) rfl | rfl) Tryz.underlying3 rfl (cx.cell 0 rfl rfl)) ?_
  refine s_gval rfl rfl rfl (by first | exact w_tt rfl | exact w_gt rfl) (fun hc => v_fa fa48_1 rfl (by first | exact gve hc rfl | exact gve (and_l hc) rfl | exact gve (and_l (and_l hc)) rfl | rfl)) ?_
  refine s_gval rfl rfl rfl (by first | exact w_tt rfl | exact w_gt rfl) (fun hc => v_load1 rfl (by first | exact gve hc rfl | exact gve (and_l hc) rfl | exact gve (and_l (and_l hc)) rfl | rfl) Tryz.underlying3 rfl (cx.cell 0 rfl rfl)) ?_
  refine s_gval rfl rfl rfl (by first | exact w_tt rfl | exact w_gt rfl) (fun hc => v_cmp rfl (by first | exact gve hc rfl | exact gve (and_l hc) rfl | exact gve (and_l (and_l hc)) rfl | rfl) (by first | exact gve hc rfl | exact gve (and_l hc) rfl | exact gve (and_l (and_l hc)) rfl | rfl) rfl) ?_
  refine s_val rfl rfl (v_and rfl rfl rfl rfl) ?_
  refine s_val rfl rfl (v_move rfl rfl) ?_
  refine s_gval rfl rfl rfl (by first | exact w_tt rfl | exact w_gt rfl) (fun hc => v_fa fa48_1 rfl (by first | exact gve hc rfl | exact gve (and_l hc) rfl | exact gve (and_l (and_l hc)) rfl | rfl)) ?_
  refine s_gval rfl rfl rfl (by first | exact w_tt rfl | exact w_gt rfl) (fun hc => v_load1 rfl (by first | exact gve hc rfl | exact gve (and_l hc) rfl | exact gve (and_l (and_l hc)) rfl | rfl) Tryz.underlying3 rfl (cx.cell 0 rfl rfl)) ?_
  refine s_gval rfl rfl rfl (by first | exact w_tt rfl | exact w_gt rfl) (fun hc => v_move rfl (by first | exact gve hc rfl | exact gve (and_l hc) rfl | exact gve (and_l (and_l hc)) rfl | rfl)) ?_
  refine s_gval rfl rfl rfl (by first | exact w_tt rfl | exact w_gt rfl) (fun hc => v_cmp rfl (by first | exact gve hc rfl | exact gve (and_l hc) rfl | exact gve (and_l (and_l hc)) rfl | rfl) (by first | exact gve hc rfl | exact gve (and_l hc) rfl | exact gve (and_l (and_l hc)) rfl | rfl) rfl) ?_
  refine s_val rfl rfl (v_and rfl rfl rfl rfl) ?_
  refine s_val rfl rfl (v_assign rfl rfl) ?_
  refine wpList_nil ?_
  refine wp_ret ?_
  refine ret_tmp Tryz.results43 rfl ?_
  refine ⟨cx.ext, _, rfl, ?_⟩
  simp only [Bool.and_eq_true, decide_eq_true_eq]
  omega

end Go.Proofs.YthiafbkolhnadaaGreatDoor
