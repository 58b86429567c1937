/-
  Contracts of the reference: Check, Small; the law valid.
-/
import Derived.Test.YtmkihcdcgkdilaaCa
namespace Go.Proofs.Ytmkihcdcgkdilaa
open Go Go.Dk Go.RowKit
set_option linter.unusedSimpArgs false
set_option linter.unusedVariables false
attribute [local irreducible] Go.wpList Go.Code.wp Go.bodyPost Go.wpStill
set_option maxRecDepth 10000 in
theorem c74 : ∀ (d : Nat) (dd seen : Int) (v : V) (l : List Value) (w0 : World), dd + d = 49 → 1 ≤ dd → 0 ≤ seen → seen ≤ 65536 → Val w0 v l → Fine v →
    Fc Try.prog 74 [.agg l.toArray, .int .i64 dd, .int .i64 seen] w0 (fun r _ => ∃ s e : Int, r = .tuple #[.int .i64 s, .int .i64 e] ∧ 0 ≤ s ∧ s ≤ 65536 ∧ (e = 0 → okd d v)) := by
  intro d
  induction d using Nat.strongRecOn with
  | _ d ih =>
  intro dd seen v l w0 hd1 hd2 hs1' hs2' hv hf
  have hkf : ∀ x ∈ kidsR v, Fine x := by
    intro x hx
    unfold kidsR at hx
    split at hx
    · obtain ⟨kv, hkv, rfl⟩ := List.mem_map.1 hx; exact (hf.field hkv).2
    · exact hf.elem hx
  have hkl : (kidsR v).length ≤ 1048576 := by
    have := hf.self
    unfold kidsR
    split
    · simpa using this.2.2.2.2
    · exact this.2.2.2.1
  refine ret_enter Try.func74 rfl Try.ntmps74 rfl ?_
  have cx := Ctx.start w0
  refine wp_seq ?_
  refine wp_region_lit ?_
  refine s_box cx rfl rfl rfl rfl rfl ?_; intro b3 w cx hb3 hw3
  refine s_val rfl rfl (v_assign rfl rfl) ?_
  refine s_val rfl rfl (v_assign rfl rfl) ?_
  refine wpList_nil ?_
  refine wp_seq ?_
  refine wp_seq ?_
  refine wp_region_lit ?_
  refine s_val rfl rfl (v_move rfl rfl) ?_
  refine s_val rfl rfl (v_cmp rfl rfl rfl rfl) ?_
  refine wpList_nil ?_
  refine c_split rfl (fun hc13 => ?_) (fun hc13 => ?_)
  · skip
    try simp only [Bool.and_eq_true, Bool.or_eq_true, Bool.and_eq_false_iff, Bool.or_eq_false_iff, Bool.not_eq_true', Bool.not_eq_false', decide_eq_true_eq, decide_eq_false_iff_not, beq_iff_eq, beq_eq_false_iff_ne, bne_iff_ne, bne_eq_false_iff_eq, ne_eq, Classical.not_not] at hc13
    refine wp_seq ?_
    refine wp_region_lit ?_
    refine s_val rfl rfl (v_move rfl rfl) ?_
    refine s_val rfl rfl (v_assign rfl rfl) ?_
    refine s_val rfl rfl (v_assign rfl rfl) ?_
    refine wpList_nil ?_
    refine wp_ret ?_
    refine ret_tmp2 Try.results74 rfl rfl ?_
    exact ⟨cx.ext, _, _, rfl, by omega, by omega, fun h => by cases h⟩
  · skip
    try simp only [Bool.and_eq_true, Bool.or_eq_true, Bool.and_eq_false_iff, Bool.or_eq_false_iff, Bool.not_eq_true', Bool.not_eq_false', decide_eq_true_eq, decide_eq_false_iff_not, beq_iff_eq, beq_eq_false_iff_ne, bne_iff_ne, bne_eq_false_iff_eq, ne_eq, Classical.not_not] at hc13
    refine wp_skip ?_
    refine wp_seq ?_
    refine wp_seq ?_
    refine wp_region_lit ?_
    refine s_val rfl rfl (v_move rfl rfl) ?_
    refine s_val rfl rfl (v_cmp rfl rfl rfl rfl) ?_
    refine wpList_nil ?_
    refine c_split rfl (fun hc16 => ?_) (fun hc16 => ?_)
    · skip
      try simp only [Bool.and_eq_true, Bool.or_eq_true, Bool.and_eq_false_iff, Bool.or_eq_false_iff, Bool.not_eq_true', Bool.not_eq_false', decide_eq_true_eq, decide_eq_false_iff_not, beq_iff_eq, beq_eq_false_iff_ne, bne_iff_ne, bne_eq_false_iff_eq, ne_eq, Classical.not_not] at hc16
      refine wp_seq ?_
      refine wp_region_lit ?_
      refine s_val rfl rfl (v_move rfl rfl) ?_
      refine s_val rfl rfl (v_assign rfl rfl) ?_
      refine s_val rfl rfl (v_assign rfl rfl) ?_
      refine wpList_nil ?_
      refine wp_ret ?_
      refine ret_tmp2 Try.results74 rfl rfl ?_
      exact ⟨cx.ext, _, _, rfl, by omega, by omega, fun h => by cases h⟩
    · skip
      try simp only [Bool.and_eq_true, Bool.or_eq_true, Bool.and_eq_false_iff, Bool.or_eq_false_iff, Bool.not_eq_true', Bool.not_eq_false', decide_eq_true_eq, decide_eq_false_iff_not, beq_iff_eq, beq_eq_false_iff_ne, bne_iff_ne, bne_eq_false_iff_eq, ne_eq, Classical.not_not] at hc16
      refine wp_skip ?_
      refine wp_seq ?_
      refine wp_seq ?_
      refine wp_region_lit ?_
      refine s_val rfl rfl (v_load rfl rfl Try.underlying33 rfl sz33 (cx.row 0 rfl) hv.len) ?_
      refine s_fnI cx (c111 _ _ _ (hv.up cx.ext) hf) Try.func111 rfl rfl rfl rfl rfl rfl ?_; intro q19 w cx hw19 hp19
      refine s_val rfl rfl (v_assign rfl rfl) ?_
      refine wpList_nil ?_
      refine wp_seq ?_
      refine wp_region_lit ?_
      refine s_val rfl rfl (v_move rfl rfl) ?_
      refine s_val rfl rfl (v_cmp rfl rfl rfl rfl) ?_
      refine wpList_nil ?_
      refine c_split rfl (fun hc21 => ?_) (fun hc21 => ?_)
      · skip
        try simp only [Bool.and_eq_true, Bool.or_eq_true, Bool.and_eq_false_iff, Bool.or_eq_false_iff, Bool.not_eq_true', Bool.not_eq_false', decide_eq_true_eq, decide_eq_false_iff_not, beq_iff_eq, beq_eq_false_iff_ne, bne_iff_ne, bne_eq_false_iff_eq, ne_eq, Classical.not_not] at hc21
        refine wp_seq ?_
        refine wp_region_lit ?_
        refine s_val rfl rfl (v_move rfl rfl) ?_
        refine s_val rfl rfl (v_move rfl rfl) ?_
        refine s_val rfl rfl (v_assign rfl rfl) ?_
        refine s_val rfl rfl (v_assign rfl rfl) ?_
        refine wpList_nil ?_
        refine wp_ret ?_
        refine ret_tmp2 Try.results74 rfl rfl ?_
        exact ⟨cx.ext, _, _, rfl, by omega, by omega, fun h => absurd h hc21⟩
      · skip
        try simp only [Bool.and_eq_true, Bool.or_eq_true, Bool.and_eq_false_iff, Bool.or_eq_false_iff, Bool.not_eq_true', Bool.not_eq_false', decide_eq_true_eq, decide_eq_false_iff_not, beq_iff_eq, beq_eq_false_iff_ne, bne_iff_ne, bne_eq_false_iff_eq, ne_eq, Classical.not_not] at hc21
        refine wp_skip ?_
        refine wp_seq ?_
        refine wp_region_lit ?_
        refine s_val rfl rfl (v_move rfl rfl) ?_
        refine s_val rfl rfl (v_add rfl rfl rfl (by omega) (by omega)) ?_
        refine s_val rfl rfl (v_assign rfl rfl) ?_
        refine wpList_nil ?_
        refine wp_seq ?_
        refine wp_region_lit ?_
        refine s_val rfl rfl (v_load rfl rfl Try.underlying33 rfl sz33 (cx.row 0 rfl) (by first | rfl | exact hv.len)) ?_
        refine s_fn cx (c76 _ _ _ (hv.up cx.ext) hf) Try.func76 rfl rfl rfl rfl rfl rfl ?_; intro q27 wk cx hw27 hp27
        obtain ⟨ka, kc, kb, ko, rfl, hka, hkget⟩ := hp27.open
        replace cx := cx.drop 1
        refine s_val rfl rfl (v_assign rfl rfl) ?_
        refine wpList_nil ?_
        refine wp_seq ?_
        refine wp_seq ?_
        refine wp_region_lit ?_
        refine s_val rfl rfl (v_assign rfl rfl) ?_
        refine wpList_nil ?_
        refine wp_block ?_
        refine w_loop (fun k f w1 => ∃ (i : Nat) (s : Int), k + i = (kidsR v).length ∧ 0 ≤ s ∧ s ≤ 65536 ∧ f 1 = .int .i64 dd ∧ f 2 = .int .i64 s ∧ f 9 = .slice ka (kidsR v).length kc ∧ f 10 = .int .i64 i ∧ Ctx w0 w1 [] ∧ Below wk.heap.size wk w1 ∧ ∀ x ∈ (kidsR v).take i, okd (d - 1) x) ((kidsR v).length) ?_ ?_
        · skip
          exact ⟨0, _, by omega, by omega, by omega, rfl, rfl, rfl, rfl, cx, Below.refl _ _, by simp⟩
        intro gk11 f w hJ
        obtain ⟨i, s, hk, hs00, hs01, hs1, hs2, hs9, hs10, cx, hbk, hall⟩ := hJ
        refine wp_seq ?_
        refine wp_seq ?_
        refine wp_region_lit ?_
        refine s_val rfl rfl (v_move rfl hs10) ?_
        refine s_val rfl rfl (v_move rfl hs9) ?_
        refine s_val rfl rfl (v_lenSlice rfl rfl Try.underlying30) ?_
        refine s_val rfl rfl (v_cmp rfl rfl rfl rfl) ?_
        refine wpList_nil ?_
        refine c_split rfl (fun hc31 => ?_) (fun hc31 => ?_)
        · skip
          try simp only [Bool.and_eq_true, Bool.or_eq_true, Bool.and_eq_false_iff, Bool.or_eq_false_iff, Bool.not_eq_true', Bool.not_eq_false', decide_eq_true_eq, decide_eq_false_iff_not, beq_iff_eq, beq_eq_false_iff_ne, bne_iff_ne, bne_eq_false_iff_eq, ne_eq, Classical.not_not] at hc31
          obtain rfl := hka (by omega)
          obtain ⟨r, hr, hrv⟩ := hkget i (kidsR v)[i] (List.getElem?_eq_getElem (by omega))
          refine wp_skip ?_
          refine wp_seq ?_
          refine wp_block ?_
          refine wp_seq ?_
          refine wp_region_lit ?_
          refine s_val rfl rfl (v_assign rfl rfl) ?_
          refine wpList_nil ?_
          refine wp_seq ?_
          refine wp_region_lit ?_
          refine s_val rfl rfl (v_move rfl hs9) ?_
          refine s_val rfl rfl (v_move rfl hs10) ?_
          refine s_val rfl rfl (v_ia Try.underlying30 sz33 rfl rfl rfl (by omega) (by omega)) ?_
          refine s_val rfl rfl (v_load rfl rfl Try.underlying33 rfl sz33 (hr.up hbk) hrv.len) ?_
          refine s_val rfl rfl (v_move rfl hs1) ?_
          refine s_val rfl rfl (v_add rfl rfl rfl (by omega) (by omega)) ?_
          refine s_val rfl rfl (v_move rfl hs2) ?_
          refine s_fn cx (ih (d - 1) (by omega) _ _ _ _ _ (by omega) (by omega) (by omega) (by omega) (hrv.up hbk) (hkf _ (List.getElem_mem _))) Try.func74 rfl rfl rfl rfl rfl rfl ?_; intro q42 w cx hw42 hp42
          obtain ⟨s2, e2, rfl, h20, h21, h22⟩ := hp42
          refine s_val rfl rfl (v_move rfl rfl) ?_
          refine s_val rfl rfl (v_extract rfl rfl rfl) ?_
          refine s_val rfl rfl (v_extract rfl rfl rfl) ?_
          refine s_val rfl rfl (v_assign rfl rfl) ?_
          refine s_val rfl rfl (v_assign rfl rfl) ?_
          refine wpList_nil ?_
          refine wp_seq ?_
          refine wp_region_lit ?_
          refine s_val rfl rfl (v_move rfl rfl) ?_
          refine s_val rfl rfl (v_cmp rfl rfl rfl rfl) ?_
          refine wpList_nil ?_
          refine c_split rfl (fun hc46 => ?_) (fun hc46 => ?_)
          · skip
            try simp only [Bool.and_eq_true, Bool.or_eq_true, Bool.and_eq_false_iff, Bool.or_eq_false_iff, Bool.not_eq_true', Bool.not_eq_false', decide_eq_true_eq, decide_eq_false_iff_not, beq_iff_eq, beq_eq_false_iff_ne, bne_iff_ne, bne_eq_false_iff_eq, ne_eq, Classical.not_not] at hc46
            refine wp_seq ?_
            refine wp_region_lit ?_
            refine s_val rfl rfl (v_move rfl rfl) ?_
            refine s_val rfl rfl (v_move rfl rfl) ?_
            refine s_val rfl rfl (v_assign rfl rfl) ?_
            refine s_val rfl rfl (v_assign rfl rfl) ?_
            refine wpList_nil ?_
            refine wp_ret ?_
            refine ret_tmp2 Try.results74 rfl rfl ?_
            exact ⟨cx.ext, _, _, rfl, by omega, by omega, fun h => absurd h hc46⟩
          · skip
            try simp only [Bool.and_eq_true, Bool.or_eq_true, Bool.and_eq_false_iff, Bool.or_eq_false_iff, Bool.not_eq_true', Bool.not_eq_false', decide_eq_true_eq, decide_eq_false_iff_not, beq_iff_eq, beq_eq_false_iff_ne, bne_iff_ne, bne_eq_false_iff_eq, ne_eq, Classical.not_not] at hc46
            refine wp_skip ?_
            refine wp_region_lit ?_
            refine s_val rfl rfl (v_move rfl hs10) ?_
            refine s_val rfl rfl (v_add rfl rfl rfl (by omega) (by omega)) ?_
            refine s_val rfl rfl (v_assign rfl rfl) ?_
            refine wpList_nil ?_
            refine ⟨gk11 - 1, _, by omega, rfl, i + 1, s2, by omega, by omega, by omega, hs1, rfl, hs9, rfl, cx, hbk.trans (hw42.mono hbk.size), ?_⟩
            intro x hx
            rw [List.take_succ_eq_append_getElem (by omega)] at hx
            rcases List.mem_append.1 hx with hx | hx
            · exact hall x hx
            · simp at hx; subst hx; exact h22 hc46
        · skip
          try simp only [Bool.and_eq_true, Bool.or_eq_true, Bool.and_eq_false_iff, Bool.or_eq_false_iff, Bool.not_eq_true', Bool.not_eq_false', decide_eq_true_eq, decide_eq_false_iff_not, beq_iff_eq, beq_eq_false_iff_ne, bne_iff_ne, bne_eq_false_iff_eq, ne_eq, Classical.not_not] at hc31
          refine wp_exit ?_
          refine wp_seq ?_
          refine wp_region_lit ?_
          refine s_val rfl rfl (v_move rfl hs2) ?_
          refine s_val rfl rfl (v_assign rfl rfl) ?_
          refine s_val rfl rfl (v_assign rfl rfl) ?_
          refine wpList_nil ?_
          refine wp_ret ?_
          refine ret_tmp2 Try.results74 rfl rfl ?_
          refine ⟨cx.ext, _, _, rfl, by omega, by omega, fun _ => ?_⟩
          have hi : i = (kidsR v).length := by omega
          subst hi
          rw [List.take_length] at hall
          obtain ⟨e, rfl⟩ : ∃ e, d = e + 1 := ⟨d - 1, by omega⟩
          obtain ⟨ho, hnd⟩ := hp19 hc21
          rw [kids_own ho] at hall
          exact ⟨ho, hnd, fun x hx => hall x (List.mem_append_left _ hx), fun kv hkv => hall kv.2 (List.mem_append_right _ (List.mem_map.2 ⟨kv, hkv, rfl⟩))⟩

set_option maxRecDepth 10000 in
theorem c47 (v : V) (l : List Value) (w0 : World) (hv : Val w0 v l) (hf : Fine v) : Fc Try.prog 47 [.agg l.toArray] w0 (IsI fun m => m = 0 → okd 48 v) := by
  refine ret_enter Try.func47 rfl Try.ntmps47 rfl ?_
  have cx := Ctx.start w0
  refine wp_seq ?_
  refine wp_region_lit ?_
  refine s_box cx rfl rfl rfl rfl rfl ?_; intro b1 w cx hb1 hw1
  refine s_val rfl rfl (v_assign rfl rfl) ?_
  refine wpList_nil ?_
  refine wp_seq ?_
  refine wp_region_lit ?_
  refine s_val rfl rfl (v_load rfl rfl Try.underlying33 rfl sz33 (cx.row 0 rfl) hv.len) ?_
  refine s_fn cx (c74 48 _ _ _ _ _ (by omega) (by omega) (by omega) (by omega) (hv.up cx.ext) hf) Try.func74 rfl rfl rfl rfl rfl rfl ?_; intro q7 w cx hw7 hp7
  obtain ⟨es7, ee7, rfl, _, _, he7⟩ := hp7
  refine s_val rfl rfl (v_move rfl rfl) ?_
  refine s_val rfl rfl (v_extract rfl rfl rfl) ?_
  refine s_val rfl rfl (v_extract rfl rfl rfl) ?_
  refine s_val rfl rfl (v_assign rfl rfl) ?_
  refine s_val rfl rfl (v_assign rfl rfl) ?_
  refine wpList_nil ?_
  refine wp_seq ?_
  refine wp_region_lit ?_
  refine s_val rfl rfl (v_move rfl rfl) ?_
  refine s_val rfl rfl (v_assign rfl rfl) ?_
  refine wpList_nil ?_
  refine wp_ret ?_
  refine ret_tmp Try.results47 rfl ?_
  exact ⟨cx.ext, _, rfl, he7⟩

set_option maxRecDepth 10000 in
theorem c73 : ∀ (d : Nat) (dd left : Int) (v : V) (l : List Value) (w0 : World), dd = d → d ≤ 100000 → 0 ≤ left → left ≤ 1000 → Val w0 v l → Fine v →
    Fc Try.prog 73 [.agg l.toArray, .int .i64 left, .int .i64 dd] w0 (IsI fun m => (-1 ≤ m ∧ m ≤ left) ∧ (0 ≤ m → deep d v ∧ m + tsz d v = left)) := by
  intro d
  induction d using Nat.strongRecOn with
  | _ d ih =>
  intro dd left v l w0 hd hd2 hl1 hl2 hv hf
  obtain ⟨bs, ls, fs, rfl, hbs, hls, hfs⟩ := hv.open
  have hls0 := hls
  have hfs0 := hfs
  obtain ⟨la, lc, lb, lo, rfl, hla, hlget⟩ := hls0.open
  obtain ⟨fa, fc, fb, fo, rfl, hfa, hfget⟩ := hfs0.open
  have hz := hf.self
  refine ret_enter Try.func73 rfl Try.ntmps73 rfl ?_
  have cx := Ctx.start w0
  refine wp_seq ?_
  refine wp_region_lit ?_
  refine s_box cx rfl rfl rfl rfl rfl ?_; intro b3 w cx hb3 hw3
  refine s_val rfl rfl (v_assign rfl rfl) ?_
  refine wpList_nil ?_
  refine wp_seq ?_
  refine wp_region_lit ?_
  refine s_val rfl rfl (v_move rfl rfl) ?_
  refine s_val rfl rfl (v_sub rfl rfl rfl (by omega) (by omega)) ?_
  refine s_val rfl rfl (v_assign rfl rfl) ?_
  refine wpList_nil ?_
  refine wp_seq ?_
  refine wp_seq ?_
  refine wp_region_lit ?_
  refine s_val rfl rfl (v_move rfl rfl) ?_
  refine s_val rfl rfl (v_cmp rfl rfl rfl rfl) ?_
  refine s_val rfl rfl (v_move rfl rfl) ?_
  refine s_gval rfl rfl rfl (by first | exact w_ff rfl | exact w_gf rfl) (fun hc => v_fa fa33_6 rfl (by first | exact gve hc rfl | exact gve (and_l hc) rfl | exact gve (and_l (and_l hc)) rfl | rfl)) ?_
  refine s_gval rfl rfl rfl (by first | exact w_ff rfl | exact w_gf rfl) (fun hc => v_load1 rfl (by first | exact gve hc rfl | exact gve (and_l hc) rfl | exact gve (and_l (and_l hc)) rfl | rfl) Try.underlying30 rfl (cx.cell 0 rfl rfl)) ?_
  refine s_gval rfl rfl rfl (by first | exact w_ff rfl | exact w_gf rfl) (fun hc => v_lenSlice rfl (by first | exact gve hc rfl | exact gve (and_l hc) rfl | exact gve (and_l (and_l hc)) rfl | rfl) Try.underlying30) ?_
  refine s_gval rfl rfl rfl (by first | exact w_ff rfl | exact w_gf rfl) (fun hc => v_move rfl (by first | exact gve hc rfl | exact gve (and_l hc) rfl | exact gve (and_l (and_l hc)) rfl | rfl)) ?_
  refine s_gval rfl rfl rfl (by first | exact w_ff rfl | exact w_gf rfl) (fun hc => v_cmp rfl (by first | exact gve hc rfl | exact gve (and_l hc) rfl | exact gve (and_l (and_l hc)) rfl | rfl) (by first | exact gve hc rfl | exact gve (and_l hc) rfl | exact gve (and_l (and_l hc)) rfl | rfl) rfl) ?_
  refine s_val rfl rfl (v_or rfl rfl rfl rfl) ?_
  refine s_val rfl rfl (v_move rfl rfl) ?_
  refine s_gval rfl rfl rfl (by first | exact w_ff rfl | exact w_gf rfl) (fun hc => v_fa fa33_7 rfl (by first | exact gve hc rfl | exact gve (and_l hc) rfl | exact gve (and_l (and_l hc)) rfl | rfl)) ?_
  refine s_gval rfl rfl rfl (by first | exact w_ff rfl | exact w_gf rfl) (fun hc => v_load1 rfl (by first | exact gve hc rfl | exact gve (and_l hc) rfl | exact gve (and_l (and_l hc)) rfl | rfl) Try.underlying31 rfl (cx.cell 0 rfl rfl)) ?_
  refine s_gval rfl rfl rfl (by first | exact w_ff rfl | exact w_gf rfl) (fun hc => v_lenSlice rfl (by first | exact gve hc rfl | exact gve (and_l hc) rfl | exact gve (and_l (and_l hc)) rfl | rfl) Try.underlying31) ?_
  refine s_gval rfl rfl rfl (by first | exact w_ff rfl | exact w_gf rfl) (fun hc => v_move rfl (by first | exact gve hc rfl | exact gve (and_l hc) rfl | exact gve (and_l (and_l hc)) rfl | rfl)) ?_
  refine s_gval rfl rfl rfl (by first | exact w_ff rfl | exact w_gf rfl) (fun hc => v_cmp rfl (by first | exact gve hc rfl | exact gve (and_l hc) rfl | exact gve (and_l (and_l hc)) rfl | rfl) (by first | exact gve hc rfl | exact gve (and_l hc) rfl | exact gve (and_l (and_l hc)) rfl | rfl) rfl) ?_
  refine s_val rfl rfl (v_or rfl rfl rfl rfl) ?_
  refine wpList_nil ?_
  refine c_split rfl (fun hc26 => ?_) (fun hc26 => ?_)
  · skip
    try simp only [Bool.and_eq_true, Bool.or_eq_true, Bool.and_eq_false_iff, Bool.or_eq_false_iff, Bool.not_eq_true', Bool.not_eq_false', decide_eq_true_eq, decide_eq_false_iff_not, beq_iff_eq, beq_eq_false_iff_ne, bne_iff_ne, bne_eq_false_iff_eq, ne_eq, Classical.not_not] at hc26
    refine wp_seq ?_
    refine wp_region_lit ?_
    refine s_val rfl rfl (v_assign rfl rfl) ?_
    refine wpList_nil ?_
    refine wp_ret ?_
    refine ret_tmp Try.results73 rfl ?_
    exact ⟨cx.ext, _, rfl, ⟨by omega, by omega⟩, fun h => by omega⟩
  · skip
    try simp only [Bool.and_eq_true, Bool.or_eq_true, Bool.and_eq_false_iff, Bool.or_eq_false_iff, Bool.not_eq_true', Bool.not_eq_false', decide_eq_true_eq, decide_eq_false_iff_not, beq_iff_eq, beq_eq_false_iff_ne, bne_iff_ne, bne_eq_false_iff_eq, ne_eq, Classical.not_not] at hc26
    refine wp_skip ?_
    refine wp_seq ?_
    refine wp_seq ?_
    refine wp_region_lit ?_
    refine s_val rfl rfl (v_assign rfl rfl) ?_
    refine wpList_nil ?_
    refine wp_block ?_
    refine w_loop (fun k f w1 => ∃ (i : Nat) (m : Int), k + i = v.list.length ∧ -1 ≤ m ∧ m ≤ left ∧ f 2 = .int .i64 dd ∧ f 1 = .int .i64 m ∧ f 3 = .pointer (some ⟨b3, 0, none⟩) ∧ f 7 = .int .i64 i ∧ Ctx w0 w1 [(b3, .cells (vrow v.sc bs (.slice la v.list.length lc) (.slice fa v.fields.length fc)).toArray 33)] ∧ (0 ≤ m → (∀ x ∈ (v.list).take i, deep (d - 1) x) ∧ m + (((v.list).take i).map (tsz (d - 1))).sum = left - 1)) (v.list.length) ?_ ?_
    · skip
      exact ⟨0, _, by omega, by omega, by omega, rfl, rfl, rfl, rfl, cx, fun _ => by simp⟩
    intro gk5 f w hJ
    obtain ⟨i5, m5, hk5, hm15, hm25, hs2, hs1, hs3, hs7, cx, hacc5⟩ := hJ
    refine wp_seq ?_
    refine wp_seq ?_
    refine wp_region_lit ?_
    refine s_val rfl rfl (v_move rfl hs7) ?_
    refine s_val rfl rfl (v_fa fa33_6 rfl hs3) ?_
    refine s_val rfl rfl (v_load1 rfl rfl Try.underlying30 rfl (cx.cell 0 rfl rfl)) ?_
    refine s_val rfl rfl (v_lenSlice rfl rfl Try.underlying30) ?_
    refine s_val rfl rfl (v_cmp rfl rfl rfl rfl) ?_
    refine s_val rfl rfl (v_move rfl rfl) ?_
    refine s_gval rfl rfl rfl (by first | exact w_tt rfl | exact w_gt rfl) (fun hc => v_move rfl hs1) ?_
    refine s_gval rfl rfl rfl (by first | exact w_tt rfl | exact w_gt rfl) (fun hc => v_cmp rfl (by first | exact gve hc rfl | exact gve (and_l hc) rfl | exact gve (and_l (and_l hc)) rfl | rfl) rfl rfl) ?_
    refine s_val rfl rfl (v_and rfl rfl rfl rfl) ?_
    refine wpList_nil ?_
    refine c_split rfl (fun hc35 => ?_) (fun hc35 => ?_)
    · skip
      try simp only [Bool.and_eq_true, Bool.or_eq_true, Bool.and_eq_false_iff, Bool.or_eq_false_iff, Bool.not_eq_true', Bool.not_eq_false', decide_eq_true_eq, decide_eq_false_iff_not, beq_iff_eq, beq_eq_false_iff_ne, bne_iff_ne, bne_eq_false_iff_eq, ne_eq, Classical.not_not] at hc35
      obtain rfl := hla (by omega)
      obtain ⟨r, hr, hrv⟩ := hlget i5 v.list[i5] (List.getElem?_eq_getElem (by omega))
      refine wp_skip ?_
      refine wp_seq ?_
      refine wp_block ?_
      refine wp_region_lit ?_
      refine s_val rfl rfl (v_fa fa33_6 rfl hs3) ?_
      refine s_val rfl rfl (v_load1 rfl rfl Try.underlying30 rfl (cx.cell 0 rfl rfl)) ?_
      refine s_val rfl rfl (v_move rfl hs7) ?_
      refine s_val rfl rfl (v_ia Try.underlying30 sz33 rfl rfl rfl (by omega) (by omega)) ?_
      refine s_val rfl rfl (v_load rfl rfl Try.underlying33 rfl sz33 (hr.up cx.ext) hrv.len) ?_
      refine s_val rfl rfl (v_move rfl hs1) ?_
      refine s_val rfl rfl (v_move rfl hs2) ?_
      refine s_val rfl rfl (v_sub rfl rfl rfl (by omega) (by omega)) ?_
      refine s_fnI cx (ih (d - 1) (by omega) _ _ _ _ _ (by omega) (by omega) (by omega) (by omega) (hrv.up cx.ext) (hf.elem (List.getElem_mem _))) Try.func73 rfl rfl rfl rfl rfl rfl ?_; intro q46 w cx hw46 hp46
      refine s_val rfl rfl (v_assign rfl rfl) ?_
      refine wpList_nil ?_
      refine wp_region_lit ?_
      refine s_val rfl rfl (v_move rfl hs7) ?_
      refine s_val rfl rfl (v_add rfl rfl rfl (by omega) (by omega)) ?_
      refine s_val rfl rfl (v_assign rfl rfl) ?_
      refine wpList_nil ?_
      exact ⟨gk5 - 1, _, by omega, rfl, i5 + 1, q46, by omega, by omega, by omega, hs2, rfl, hs3, rfl, cx, room_step (by omega) hacc5 (by omega) hp46.2⟩
    · skip
      try simp only [Bool.and_eq_true, Bool.or_eq_true, Bool.and_eq_false_iff, Bool.or_eq_false_iff, Bool.not_eq_true', Bool.not_eq_false', decide_eq_true_eq, decide_eq_false_iff_not, beq_iff_eq, beq_eq_false_iff_ne, bne_iff_ne, bne_eq_false_iff_eq, ne_eq, Classical.not_not] at hc35
      refine wp_exit ?_
      refine wp_seq ?_
      refine wp_seq ?_
      refine wp_region_lit ?_
      refine s_val rfl rfl (v_assign rfl rfl) ?_
      refine wpList_nil ?_
      refine wp_block ?_
      refine w_loop (fun k f w1 => ∃ (i : Nat) (m : Int), k + i = v.fields.length ∧ -1 ≤ m ∧ m ≤ left ∧ f 2 = .int .i64 dd ∧ f 1 = .int .i64 m ∧ f 3 = .pointer (some ⟨b3, 0, none⟩) ∧ f 8 = .int .i64 i ∧ Ctx w0 w1 [(b3, .cells (vrow v.sc bs (.slice la v.list.length lc) (.slice fa v.fields.length fc)).toArray 33)] ∧ (0 ≤ m → (∀ x ∈ (v.fields.map (·.2)).take i, deep (d - 1) x) ∧ m + (((v.fields.map (·.2)).take i).map (tsz (d - 1))).sum = m5)) (v.fields.length) ?_ ?_
      · skip
        exact ⟨0, _, by omega, by omega, by omega, hs2, hs1, hs3, rfl, cx, fun _ => by simp⟩
      intro gk9 f w hJ
      obtain ⟨i9, m9, hk9, hm19, hm29, hs2, hs1, hs3, hs8, cx, hacc9⟩ := hJ
      refine wp_seq ?_
      refine wp_seq ?_
      refine wp_region_lit ?_
      refine s_val rfl rfl (v_move rfl hs8) ?_
      refine s_val rfl rfl (v_fa fa33_7 rfl hs3) ?_
      refine s_val rfl rfl (v_load1 rfl rfl Try.underlying31 rfl (cx.cell 0 rfl rfl)) ?_
      refine s_val rfl rfl (v_lenSlice rfl rfl Try.underlying31) ?_
      refine s_val rfl rfl (v_cmp rfl rfl rfl rfl) ?_
      refine s_val rfl rfl (v_move rfl rfl) ?_
      refine s_gval rfl rfl rfl (by first | exact w_tt rfl | exact w_gt rfl) (fun hc => v_move rfl hs1) ?_
      refine s_gval rfl rfl rfl (by first | exact w_tt rfl | exact w_gt rfl) (fun hc => v_cmp rfl (by first | exact gve hc rfl | exact gve (and_l hc) rfl | exact gve (and_l (and_l hc)) rfl | rfl) rfl rfl) ?_
      refine s_val rfl rfl (v_and rfl rfl rfl rfl) ?_
      refine wpList_nil ?_
      refine c_split rfl (fun hc55 => ?_) (fun hc55 => ?_)
      · skip
        try simp only [Bool.and_eq_true, Bool.or_eq_true, Bool.and_eq_false_iff, Bool.or_eq_false_iff, Bool.not_eq_true', Bool.not_eq_false', decide_eq_true_eq, decide_eq_false_iff_not, beq_iff_eq, beq_eq_false_iff_ne, bne_iff_ne, bne_eq_false_iff_eq, ne_eq, Classical.not_not] at hc55
        obtain rfl := hfa (by omega)
        obtain ⟨r, hr, hrv⟩ := hfget i9 v.fields[i9] (List.getElem?_eq_getElem (by omega))
        refine wp_skip ?_
        refine wp_seq ?_
        refine wp_block ?_
        refine wp_region_lit ?_
        refine s_val rfl rfl (v_fa fa33_7 rfl hs3) ?_
        refine s_val rfl rfl (v_load1 rfl rfl Try.underlying31 rfl (cx.cell 0 rfl rfl)) ?_
        refine s_val rfl rfl (v_move rfl hs8) ?_
        refine s_val rfl rfl (v_ia Try.underlying31 sz77 rfl rfl rfl (by omega) (by omega)) ?_
        refine s_val rfl rfl (v_fa fa77_1 rfl rfl) ?_
        refine s_val rfl rfl (v_load rfl rfl Try.underlying33 rfl sz33 (hr.tail.up cx.ext) hrv.len) ?_
        refine s_val rfl rfl (v_move rfl hs1) ?_
        refine s_val rfl rfl (v_move rfl hs2) ?_
        refine s_val rfl rfl (v_sub rfl rfl rfl (by omega) (by omega)) ?_
        refine s_fnI cx (ih (d - 1) (by omega) _ _ _ _ _ (by omega) (by omega) (by omega) (by omega) (hrv.up cx.ext) (hf.field (List.getElem_mem _)).2) Try.func73 rfl rfl rfl rfl rfl rfl ?_; intro q67 w cx hw67 hp67
        refine s_val rfl rfl (v_assign rfl rfl) ?_
        refine wpList_nil ?_
        refine wp_region_lit ?_
        refine s_val rfl rfl (v_move rfl hs8) ?_
        refine s_val rfl rfl (v_add rfl rfl rfl (by omega) (by omega)) ?_
        refine s_val rfl rfl (v_assign rfl rfl) ?_
        refine wpList_nil ?_
        exact ⟨gk9 - 1, _, by omega, rfl, i9 + 1, q67, by omega, by omega, by omega, hs2, rfl, hs3, rfl, cx, room_step (by simp; omega) hacc9 (by omega) (by simpa using hp67.2)⟩
      · skip
        try simp only [Bool.and_eq_true, Bool.or_eq_true, Bool.and_eq_false_iff, Bool.or_eq_false_iff, Bool.not_eq_true', Bool.not_eq_false', decide_eq_true_eq, decide_eq_false_iff_not, beq_iff_eq, beq_eq_false_iff_ne, bne_iff_ne, bne_eq_false_iff_eq, ne_eq, Classical.not_not] at hc55
        refine wp_exit ?_
        refine wp_seq ?_
        refine wp_region_lit ?_
        refine s_val rfl rfl (v_move rfl hs1) ?_
        refine s_val rfl rfl (v_assign rfl rfl) ?_
        refine wpList_nil ?_
        refine wp_ret ?_
        refine ret_tmp Try.results73 rfl ?_
        refine ⟨cx.ext, _, rfl, ⟨by omega, by omega⟩, fun h => ?_⟩
        obtain ⟨e, rfl⟩ : ∃ e, d = e + 1 := ⟨d - 1, by omega⟩
        have e9 : i9 = v.fields.length := by omega
        have e5 : i5 = v.list.length := by omega
        subst e9 e5
        exact room_end hacc5 (by omega) hacc9 h

set_option maxRecDepth 10000 in
theorem c46 (v : V) (l : List Value) (m : Int) (w0 : World) (hm : 0 ≤ m ∧ m ≤ 1000) (hv : Val w0 v l) (hf : Fine v) : Fc Try.prog 46 [.agg l.toArray, .int .i64 m, .int .i64 60] w0 (IsB fun b => b = true → deep 60 v ∧ (tsz 60 v : Int) ≤ m) := by
  refine ret_enter Try.func46 rfl Try.ntmps46 rfl ?_
  have cx := Ctx.start w0
  refine wp_seq ?_
  refine wp_region_lit ?_
  refine s_box cx rfl rfl rfl rfl rfl ?_; intro b3 w cx hb3 hw3
  refine s_val rfl rfl (v_assign rfl rfl) ?_
  refine wpList_nil ?_
  refine wp_seq ?_
  refine wp_region_lit ?_
  refine s_val rfl rfl (v_load rfl rfl Try.underlying33 rfl sz33 (cx.row 0 rfl) (by first | rfl | exact hv.len)) ?_
  refine s_val rfl rfl (v_move rfl rfl) ?_
  refine s_val rfl rfl (v_move rfl rfl) ?_
  refine s_fnI cx (c73 60 _ _ _ _ _ (by omega) (by omega) (by omega) (by omega) (hv.up cx.ext) hf) Try.func73 rfl rfl rfl rfl rfl rfl ?_; intro q10 w cx hw10 hp10
  refine s_val rfl rfl (v_cmp rfl rfl rfl rfl) ?_
  refine s_val rfl rfl (v_assign rfl rfl) ?_
  refine wpList_nil ?_
  refine wp_ret ?_
  refine ret_tmp Try.results46 rfl ?_
  refine ⟨cx.ext, _, rfl, fun h => ?_⟩
  simp only [decide_eq_true_eq] at h
  have := hp10.2 h
  exact ⟨this.1, by omega⟩

set_option maxRecDepth 10000 in
theorem c17 (v : V) (l : List Value) (w0 : World) (hv : Val w0 v l) (hf : Fine v) : Fc Try.prog 17 [.agg l.toArray] w0 (IsB fun b => b = true → okd 48 v ∧ deep 60 v ∧ tsz 60 v ≤ 150) := by
  refine ret_enter Try.func17 rfl Try.ntmps17 rfl ?_
  have cx := Ctx.start w0
  refine wp_seq ?_
  refine wp_region_lit ?_
  refine s_box cx rfl rfl rfl rfl rfl ?_; intro b1 w cx hb1 hw1
  refine s_val rfl rfl (v_assign rfl rfl) ?_
  refine wpList_nil ?_
  refine wp_seq ?_
  refine wp_region_lit ?_
  refine s_val rfl rfl (v_load rfl rfl Try.underlying33 rfl sz33 (cx.row 0 rfl) (by first | rfl | exact hv.len)) ?_
  refine s_fnB cx (c46 _ _ _ _ (by omega) (hv.up cx.ext) hf) Try.func46 rfl rfl rfl rfl rfl rfl ?_; intro q4 w cx hw4 hp4
  refine s_val rfl rfl (v_move rfl rfl) ?_
  refine s_gval rfl rfl rfl (by first | exact w_tt rfl | exact w_gt rfl) (fun hc => v_load rfl (by first | exact gve hc rfl | exact gve (and_l hc) rfl | exact gve (and_l (and_l hc)) rfl | rfl) Try.underlying33 rfl sz33 (cx.row 0 rfl) (by first | rfl | exact hv.len)) ?_
  refine s_gfnI cx rfl rfl rfl (by first | exact w_tt rfl | exact w_gt rfl) (fun hc => c47 _ _ _ (hv.up cx.ext) hf) Try.func47 rfl rfl rfl (fun hc => (cons_eq (by first | exact gve hc rfl | exact gve (and_l hc) rfl | exact gve (and_l (and_l hc)) rfl | rfl) rfl)) ?_; intro q7 w cx hw7 hp7
  refine s_gval rfl rfl rfl (by first | exact w_tt rfl | exact w_gt rfl) (fun hc => v_cmp rfl (by first | exact gve hc rfl | exact gve (and_l hc) rfl | exact gve (and_l (and_l hc)) rfl | rfl) rfl rfl) ?_
  refine s_val rfl rfl (v_and rfl rfl rfl rfl) ?_
  refine s_val rfl rfl (v_assign rfl rfl) ?_
  refine wpList_nil ?_
  refine wp_ret ?_
  refine ret_tmp Try.results17 rfl ?_
  refine ⟨cx.ext, _, rfl, fun h => ?_⟩
  simp only [Bool.and_eq_true, beq_iff_eq] at h
  have h1 := hp4 h.1
  exact ⟨hp7 h.1 h.2, h1.1, by omega⟩

set_option maxRecDepth 10000 in
theorem c20 (v : V) (l : List Value) (w0 : World) (hv : Val w0 v l) (hf : Fine v) : Fc Try.prog 20 [.agg l.toArray] w0 (IsB fun b => b = true → okd 48 v ∧ deep 60 v ∧ tsz 60 v ≤ 100) := by
  refine ret_enter Try.func20 rfl Try.ntmps20 rfl ?_
  have cx := Ctx.start w0
  refine wp_seq ?_
  refine wp_region_lit ?_
  refine s_box cx rfl rfl rfl rfl rfl ?_; intro b1 w cx hb1 hw1
  refine s_val rfl rfl (v_assign rfl rfl) ?_
  refine wpList_nil ?_
  refine wp_seq ?_
  refine wp_region_lit ?_
  refine s_val rfl rfl (v_load rfl rfl Try.underlying33 rfl sz33 (cx.row 0 rfl) (by first | rfl | exact hv.len)) ?_
  refine s_fnB cx (c46 _ _ _ _ (by omega) (hv.up cx.ext) hf) Try.func46 rfl rfl rfl rfl rfl rfl ?_; intro q4 w cx hw4 hp4
  refine s_val rfl rfl (v_move rfl rfl) ?_
  refine s_gval rfl rfl rfl (by first | exact w_tt rfl | exact w_gt rfl) (fun hc => v_load rfl (by first | exact gve hc rfl | exact gve (and_l hc) rfl | exact gve (and_l (and_l hc)) rfl | rfl) Try.underlying33 rfl sz33 (cx.row 0 rfl) (by first | rfl | exact hv.len)) ?_
  refine s_gfnI cx rfl rfl rfl (by first | exact w_tt rfl | exact w_gt rfl) (fun hc => c47 _ _ _ (hv.up cx.ext) hf) Try.func47 rfl rfl rfl (fun hc => (cons_eq (by first | exact gve hc rfl | exact gve (and_l hc) rfl | exact gve (and_l (and_l hc)) rfl | rfl) rfl)) ?_; intro q7 w cx hw7 hp7
  refine s_gval rfl rfl rfl (by first | exact w_tt rfl | exact w_gt rfl) (fun hc => v_cmp rfl (by first | exact gve hc rfl | exact gve (and_l hc) rfl | exact gve (and_l (and_l hc)) rfl | rfl) rfl rfl) ?_
  refine s_val rfl rfl (v_and rfl rfl rfl rfl) ?_
  refine s_val rfl rfl (v_assign rfl rfl) ?_
  refine wpList_nil ?_
  refine wp_ret ?_
  refine ret_tmp Try.results20 rfl ?_
  refine ⟨cx.ext, _, rfl, fun h => ?_⟩
  simp only [Bool.and_eq_true, beq_iff_eq] at h
  have h1 := hp4 h.1
  exact ⟨hp7 h.1 h.2, h1.1, by omega⟩
end Go.Proofs.Ytmkihcdcgkdilaa
