/-
  Contracts: Overlay of the program; find and without of the reference; Same.
-/
import Derived.Test.YtmkihcdcgkdilaaCg
import Derived.Test.YtmkihcdcgkdilaaVj
namespace Go.Proofs.Ytmkihcdcgkdilaa
open Go Go.Dk Go.RowKit
set_option linter.unusedSimpArgs false
set_option linter.unusedVariables false
attribute [local irreducible] Go.wpList Go.Code.wp Go.bodyPost Go.wpStill
set_option maxRecDepth 10000 in
theorem c21 (e mb mo : Nat) (bv ov : V) (rb ro : List Value) (w0 : World) (hgb : Gd e mb bv) (hgo : Gd e mo ov) (he : e ≤ 48) (hm : mb + mo ≤ 1000000) (hb : Val w0 bv rb) (ho : Val w0 ov ro) : Fc Try.prog 21 [.agg rb.toArray, .agg ro.toArray] w0 (fun y w' => Made w0 w' (ovl e bv ov) y) := by
  refine ret_enter Try.func21 rfl Try.ntmps21 rfl ?_
  have cx := Ctx.start w0
  refine wp_seq ?_
  refine wp_region_lit ?_
  refine s_box cx rfl rfl rfl rfl rfl ?_; intro b2 w cx hb2 hw2
  refine s_box cx rfl rfl rfl rfl rfl ?_; intro b3 w cx hb3 hw3
  refine s_alloc cx z33 rfl rfl rfl ?_; intro b4 w cx hb4 hw4
  refine wpList_nil ?_
  refine wp_seq ?_
  refine wp_region_lit ?_
  refine s_val rfl rfl (v_load rfl rfl Try.underlying33 rfl sz33 (cx.row 1 rfl) ho.len) ?_
  have cxc := cx
  refine s_fn cx (c50 e mb mo bv ov _ ro _ hgb hgo he hm (Ptr.of (cx.row 2 rfl) (hb.up cx.ext)) (ho.up cx.ext)) Try.func50 rfl rfl rfl rfl rfl rfl ?_; intro q6 w cx hw6 hp6
  have hKn := Kp.fr hw6
  obtain ⟨r6, rfl, hm6⟩ := hp6.rep
  refine s_storeAllG cx 0 rfl rfl rfl rfl rfl rfl (by rw [hm6.len]; exact sz33) (by rw [hm6.len]; rfl) hm6.one ?_; intro w cx hg4
  replace hKn := hKn.grown hg4 (fun b hb e => by have h1 := (cxc.lts b4 (by simp)).2; have h2 := hb.1; simp at e; omega)
  refine wpList_nil ?_
  refine wp_ret ?_
  exact ret_cell Try.results21 rfl (cx.at 0 rfl) Try.underlying33 rfl (by rw [hm6.len]; exact sz33) ⟨cx.ext, hp6.up cxc.ext.size hKn⟩

set_option maxRecDepth 10000 in
theorem c51 (fs : List (ByteArray × V)) (s : Value) (key : ByteArray) (w0 : World) (hv : Fld w0 s fs) (hl : fs.length ≤ 1048576) : Fc Try.prog 51 [s, .string key] w0 (IsI fun m => (∃ j, ∃ h : j < fs.length, m = j ∧ fs[j].1 = key ∧ ∀ j', j' < j → ∀ kv, fs[j']? = some kv → kv.1 ≠ key) ∨ (m = -1 ∧ ∀ (j' : Nat) kv, fs[j']? = some kv → kv.1 ≠ key)) := by
  obtain ⟨fa, fc, fb, fo, rfl, hfa, hget⟩ := hv.open
  refine ret_enter Try.func51 rfl Try.ntmps51 rfl ?_
  have cx := Ctx.start w0
  refine wp_seq ?_
  refine wp_region_lit ?_
  refine s_val rfl rfl (v_assign rfl rfl) ?_
  refine wpList_nil ?_
  refine wp_seq ?_
  refine wp_seq ?_
  refine wp_region_lit ?_
  refine s_val rfl rfl (v_assign rfl rfl) ?_
  refine wpList_nil ?_
  refine wp_block ?_
  refine w_loop (fun k f w1 => ∃ i : Nat, k + i = fs.length ∧ f 0 = .slice fa fs.length fc ∧ f 1 = .string key ∧ f 5 = .int .i64 i ∧ Ctx w0 w1 [] ∧ ∀ j, j < i → ∀ kv, fs[j]? = some kv → kv.1 ≠ key) (fs.length) ?_ ?_
  · skip
    exact ⟨0, by omega, rfl, rfl, rfl, cx, fun j hj => by omega⟩
  intro gk2 f w hJ
  obtain ⟨i, hki, hs0, hs1, hs5, cx, hno⟩ := hJ
  refine wp_seq ?_
  refine wp_seq ?_
  refine wp_region_lit ?_
  refine s_val rfl rfl (v_move rfl hs5) ?_
  refine s_val rfl rfl (v_move rfl hs0) ?_
  refine s_val rfl rfl (v_lenSlice rfl rfl Try.underlying31) ?_
  refine s_val rfl rfl (v_cmp rfl rfl rfl rfl) ?_
  refine wpList_nil ?_
  refine c_split rfl (fun hc9 => ?_) (fun hc9 => ?_)
  · skip
    try simp only [Bool.and_eq_true, Bool.or_eq_true, Bool.and_eq_false_iff, Bool.or_eq_false_iff, Bool.not_eq_true', Bool.not_eq_false', decide_eq_true_eq, decide_eq_false_iff_not, beq_iff_eq, beq_eq_false_iff_ne, bne_iff_ne, bne_eq_false_iff_eq, ne_eq, Classical.not_not] at hc9
    obtain rfl := hfa (by omega)
    obtain ⟨r, hr, hrv⟩ := hget i fs[i] (List.getElem?_eq_getElem (by omega))
    refine wp_skip ?_
    refine wp_seq ?_
    refine wp_block ?_
    refine wp_seq ?_
    refine wp_region_lit ?_
    refine s_val rfl rfl (v_move rfl hs0) ?_
    refine s_val rfl rfl (v_move rfl hs5) ?_
    refine s_val rfl rfl (v_ia Try.underlying31 sz77 rfl rfl rfl (by omega) (by omega)) ?_
    refine s_val rfl rfl (v_fa fa77_0 rfl rfl) ?_
    refine s_val rfl rfl (v_load1 rfl rfl Try.underlying9 rfl ((hr.up cx.ext).cell 0 rfl)) ?_
    refine s_val rfl rfl (v_move rfl hs1) ?_
    refine s_val rfl rfl (v_strEq rfl rfl rfl) ?_
    refine wpList_nil ?_
    refine c_split rfl (fun hc18 => ?_) (fun hc18 => ?_)
    · skip
      try simp only [Bool.and_eq_true, Bool.or_eq_true, Bool.and_eq_false_iff, Bool.or_eq_false_iff, Bool.not_eq_true', Bool.not_eq_false', decide_eq_true_eq, decide_eq_false_iff_not, beq_iff_eq, beq_eq_false_iff_ne, bne_iff_ne, bne_eq_false_iff_eq, ne_eq, Classical.not_not] at hc18
      refine wp_seq ?_
      refine wp_region_lit ?_
      refine s_val rfl rfl (v_move rfl hs5) ?_
      refine s_val rfl rfl (v_assign rfl rfl) ?_
      refine wpList_nil ?_
      refine wp_ret ?_
      refine ret_tmp Try.results51 rfl ?_
      exact ⟨cx.ext, _, rfl, .inl ⟨i, by omega, rfl, hc18, hno⟩⟩
    · skip
      try simp only [Bool.and_eq_true, Bool.or_eq_true, Bool.and_eq_false_iff, Bool.or_eq_false_iff, Bool.not_eq_true', Bool.not_eq_false', decide_eq_true_eq, decide_eq_false_iff_not, beq_iff_eq, beq_eq_false_iff_ne, bne_iff_ne, bne_eq_false_iff_eq, ne_eq, Classical.not_not] at hc18
      refine wp_skip ?_
      refine wp_region_lit ?_
      refine s_val rfl rfl (v_move rfl hs5) ?_
      refine s_val rfl rfl (v_add rfl rfl rfl (by omega) (by omega)) ?_
      refine s_val rfl rfl (v_assign rfl rfl) ?_
      refine wpList_nil ?_
      refine ⟨gk2 - 1, _, by omega, rfl, i + 1, by omega, hs0, hs1, rfl, cx, fun j hj kv hkv => ?_⟩
      rcases Nat.lt_or_ge j i with h | h
      · exact hno j h kv hkv
      · obtain rfl : j = i := by omega
        rw [List.getElem?_eq_getElem (by omega)] at hkv
        obtain rfl := Option.some.inj hkv
        exact hc18
  · skip
    try simp only [Bool.and_eq_true, Bool.or_eq_true, Bool.and_eq_false_iff, Bool.or_eq_false_iff, Bool.not_eq_true', Bool.not_eq_false', decide_eq_true_eq, decide_eq_false_iff_not, beq_iff_eq, beq_eq_false_iff_ne, bne_iff_ne, bne_eq_false_iff_eq, ne_eq, Classical.not_not] at hc9
    refine wp_exit ?_
    refine wp_seq ?_
    refine wp_region_lit ?_
    refine s_val rfl rfl (v_assign rfl rfl) ?_
    refine wpList_nil ?_
    refine wp_ret ?_
    refine ret_tmp Try.results51 rfl ?_
    exact ⟨cx.ext, _, rfl, .inr ⟨rfl, fun j kv hj => hno j (by have := (List.getElem?_eq_some_iff.1 hj).1; omega) kv hj⟩⟩

set_option maxRecDepth 10000 in
theorem c52 (A : Nat → Prop) (fs : List (ByteArray × V)) (s : Value) (k : Nat) (w0 : World) (hA : ∀ b, A b → b < w0.heap.size) (hv : RepF A w0 s fs) (hl : fs.length ≤ 1048576) (hk : k < fs.length) : Fc Try.prog 52 [s, .int .i64 k] w0 (fun x w' => ∃ rs, w'.ownsRow w0.heap.size 77 14 x (fs.eraseIdx k).length rs.flatten ∧ RowsF A w' (fs.eraseIdx k) rs) := by
  obtain ⟨fb, fo, hsl, hreps⟩ := hv
  obtain ⟨rs, hrs, hrow, hlen, hone⟩ := RepFs.rows fs fo hreps
  rcases hsl with ⟨h0, _⟩ | ⟨ad, fc, rfl, hfc, hfa⟩
  · omega
  obtain ⟨rfl, hAb⟩ := hfa (by omega)
  have hlt : (rs.take k).flatten.length = k * 14 := by
    have := (RowsF.length _ _ (RowsF.take _ _ k hrs)).1
    rw [this, List.length_take]; congr 1; omega
  have hld : (rs.drop (k + 1)).flatten.length = (fs.length - (k + 1)) * 14 := by
    have := (RowsF.length _ _ (RowsF.drop _ _ (k + 1) hrs)).1
    rw [this, List.length_drop]
  have hlt1 : (rs.take (k + 1)).flatten.length = (k + 1) * 14 := by
    have := (RowsF.length _ _ (RowsF.take _ _ (k + 1) hrs)).1
    rw [this, List.length_take]; congr 1; omega
  obtain ⟨ad2, hsl2, hcell2⟩ := sliced_lo (len := fs.length) (cap := fc) hrow hlt1
  refine ret_enter Try.func52 rfl Try.ntmps52 rfl ?_
  have cx := Ctx.start w0
  refine wp_seq ?_
  refine wp_region_lit ?_
  refine s_val rfl rfl (v_assign rfl rfl) ?_
  refine wpList_nil ?_
  refine wp_seq ?_
  refine wp_region_lit ?_
  refine s_bsl0 cx Try.underlying31 sz77 rfl rfl rfl ?_; intro b6 w cx hb6 hw6
  refine s_val rfl rfl (v_move rfl rfl) ?_
  refine s_val rfl rfl (v_move rfl rfl) ?_
  refine s_val rfl rfl (v_slHi el31 es31 rfl rfl rfl (by omega) (by omega)) ?_
  replace cx := cx.toRow (k := 0) (size := 14) (cs := []) rfl (by decide)
  refine s_appendH (m := k) (c := fc) (ad := ⟨fb, fo, none⟩) (news := (rs.take k).flatten) cx ei77 Try.underlying31 rfl rfl rfl rfl (sliced_hi (by omega)) (fun j u hj => by rw [add_addr]; exact (hrow.up cx.ext) j u (flat_take hj)) hlt (RowsF.one _ _ (RowsF.take _ _ k hrs)) (by omega) ?_; intro v10 w cx hgr10 hnw10
  refine s_val rfl rfl (v_assign rfl rfl) ?_
  refine wpList_nil ?_
  refine wp_seq ?_
  refine wp_region_lit ?_
  refine s_val rfl rfl (v_move rfl rfl) ?_
  refine s_val rfl rfl (v_move rfl rfl) ?_
  refine s_val rfl rfl (v_move rfl rfl) ?_
  refine s_val rfl rfl (v_add rfl rfl rfl (by omega) (by omega)) ?_
  refine s_val rfl rfl (v_slLo el31 es31 rfl rfl rfl (by omega) (by omega)) ?_
  refine s_appendH (m := fs.length - (k + 1)) (c := fc - (k + 1)) (ad := ad2) (news := (rs.drop (k + 1)).flatten) cx ei77 Try.underlying31 rfl rfl rfl rfl hsl2 (fun j u hj => ?_) hld (RowsF.one _ _ (RowsF.drop _ _ (k + 1) hrs)) (by omega) ?_
  · have hc2 := hcell2 j u hj (by intro e; have := (List.getElem?_eq_some_iff.1 hj).1; omega)
    rw [World.cell?_of_block (w := w0) (a := ad2.add j) ((cx.ext).block _ (by have := block_lt_of_cell hc2; simpa [Addr.add] using this))]; exact hc2
  intro v16 w cx hgr16 hnw16
  refine s_val rfl rfl (v_assign rfl rfl) ?_
  refine wpList_nil ?_
  refine wp_ret ?_
  refine ret_tmp Try.results52 rfl ?_
  refine ⟨cx.ext, rs.take k ++ rs.drop (k + 1), ?_, ?_⟩
  · rw [List.flatten_append, List.length_eraseIdx, if_pos hk, show fs.length - 1 = 0 + k + (fs.length - (k + 1)) by omega]
    exact cx.head
  · rw [List.eraseIdx_eq_take_drop_succ]
    exact RowsF.mono (fun _ h => h) (fun b hb => cx.ext.block b (hA b hb)) _ _ (RowsF.append _ _ _ _ (RowsF.take _ _ k hrs) (RowsF.drop _ _ (k + 1) hrs))

set_option maxRecDepth 10000 in
theorem c22 : ∀ (v : V) (r1 r2 : List Value) (w0 : World), Val w0 v r1 → Val w0 v r2 → Fine v → Fc Try.prog 22 [.agg r1.toArray, .agg r2.toArray] w0 (IsB fun b => b = true) := by
  intro v
  induction v using V.ind2 with
  | h v ihl ihf =>
  intro r1 r2 w0 h1 h2 hfin
  have hself := hfin.self
  obtain ⟨bs1, ls1, fs1, rfl, hB1, hL1, hF1⟩ := h1.open
  obtain ⟨bs2, ls2, fs2, rfl, hB2, hL2, hF2⟩ := h2.open
  obtain ⟨la1, lc1, lb1, lo1, rfl, ha1, hl1⟩ := hL1.open
  obtain ⟨la2, lc2, lb2, lo2, rfl, ha2, hl2⟩ := hL2.open
  obtain ⟨fa1, fc1, fb1, fo1, rfl, hg1, hf1⟩ := hF1.open
  obtain ⟨fa2, fc2, fb2, fo2, rfl, hg2, hf2⟩ := hF2.open
  refine ret_enter Try.func22 rfl Try.ntmps22 rfl ?_
  have cx := Ctx.start w0
  refine wp_seq ?_
  refine wp_region_lit ?_
  refine s_box cx rfl rfl rfl rfl rfl ?_; intro b2 w cx hb2 hw2
  refine s_box cx rfl rfl rfl rfl rfl ?_; intro b3 w cx hb3 hw3
  refine s_val rfl rfl (v_assign rfl rfl) ?_
  refine wpList_nil ?_
  refine wp_seq ?_
  refine wp_seq ?_
  refine wp_region_lit ?_
  refine s_val rfl rfl (v_fa fa33_0 rfl rfl) ?_
  refine s_val rfl rfl (v_load1 rfl rfl Try.underlying3 rfl (cx.cell 1 rfl rfl)) ?_
  refine s_val rfl rfl (v_fa fa33_0 rfl rfl) ?_
  refine s_val rfl rfl (v_load1 rfl rfl Try.underlying3 rfl (cx.cell 0 rfl rfl)) ?_
  refine s_val rfl rfl (v_cmp rfl rfl rfl rfl) ?_
  refine s_val rfl rfl (v_move rfl rfl) ?_
  refine s_gval rfl rfl rfl (by first | exact w_ff rfl | exact w_gf rfl) (fun hc => v_fa fa33_1 rfl (by first | exact gve hc rfl | exact gve (and_l hc) rfl | exact gve (and_l (and_l hc)) rfl | rfl)) ?_
  refine s_gval rfl rfl rfl (by first | exact w_ff rfl | exact w_gf rfl) (fun hc => v_load1 rfl (by first | exact gve hc rfl | exact gve (and_l hc) rfl | exact gve (and_l (and_l hc)) rfl | rfl) Try.underlying4 rfl (cx.cell 1 rfl rfl)) ?_
  refine s_gval rfl rfl rfl (by first | exact w_ff rfl | exact w_gf rfl) (fun hc => v_fa fa33_1 rfl (by first | exact gve hc rfl | exact gve (and_l hc) rfl | exact gve (and_l (and_l hc)) rfl | rfl)) ?_
  refine s_gval rfl rfl rfl (by first | exact w_ff rfl | exact w_gf rfl) (fun hc => v_load1 rfl (by first | exact gve hc rfl | exact gve (and_l hc) rfl | exact gve (and_l (and_l hc)) rfl | rfl) Try.underlying4 rfl (cx.cell 0 rfl rfl)) ?_
  refine s_gval rfl rfl rfl (by first | exact w_ff rfl | exact w_gf rfl) (fun hc => v_boolSame rfl (by first | exact gve hc rfl | exact gve (and_l hc) rfl | exact gve (and_l (and_l hc)) rfl | rfl) (by first | exact gve hc rfl | exact gve (and_l hc) rfl | exact gve (and_l (and_l hc)) rfl | rfl) Try.underlying4) ?_
  refine s_val rfl rfl (v_or rfl rfl rfl rfl) ?_
  refine s_val rfl rfl (v_move rfl rfl) ?_
  refine s_gval rfl rfl rfl (by first | exact w_ff rfl | exact w_gf rfl) (fun hc => v_fa fa33_2 rfl (by first | exact gve hc rfl | exact gve (and_l hc) rfl | exact gve (and_l (and_l hc)) rfl | rfl)) ?_
  refine s_gval rfl rfl rfl (by first | exact w_ff rfl | exact w_gf rfl) (fun hc => v_load rfl (by first | exact gve hc rfl | exact gve (and_l hc) rfl | exact gve (and_l (and_l hc)) rfl | rfl) Try.underlying26 rfl sz26 ((cx.row 1 rfl).r3 2 rfl rfl rfl) rfl) ?_
  refine s_gval rfl rfl rfl (by first | exact w_ff rfl | exact w_gf rfl) (fun hc => v_fa fa33_2 rfl (by first | exact gve hc rfl | exact gve (and_l hc) rfl | exact gve (and_l (and_l hc)) rfl | rfl)) ?_
  refine s_gval rfl rfl rfl (by first | exact w_ff rfl | exact w_gf rfl) (fun hc => v_load rfl (by first | exact gve hc rfl | exact gve (and_l hc) rfl | exact gve (and_l (and_l hc)) rfl | rfl) Try.underlying26 rfl sz26 ((cx.row 0 rfl).r3 2 rfl rfl rfl) rfl) ?_
  refine s_gval rfl rfl rfl (by first | exact w_ff rfl | exact w_gf rfl) (fun hc => v_agg eqg26 (ne26 _ _ _ _ _ _) rfl (by first | exact gve hc rfl | exact gve (and_l hc) rfl | exact gve (and_l (and_l hc)) rfl | rfl) (by first | exact gve hc rfl | exact gve (and_l hc) rfl | exact gve (and_l (and_l hc)) rfl | rfl)) ?_
  refine s_val rfl rfl (v_or rfl rfl rfl rfl) ?_
  refine s_val rfl rfl (v_move rfl rfl) ?_
  refine s_gval rfl rfl rfl (by first | exact w_ff rfl | exact w_gf rfl) (fun hc => v_fa fa33_3 rfl (by first | exact gve hc rfl | exact gve (and_l hc) rfl | exact gve (and_l (and_l hc)) rfl | rfl)) ?_
  refine s_gval rfl rfl rfl (by first | exact w_ff rfl | exact w_gf rfl) (fun hc => v_load rfl (by first | exact gve hc rfl | exact gve (and_l hc) rfl | exact gve (and_l (and_l hc)) rfl | rfl) Try.underlying28 rfl sz28 ((cx.row 1 rfl).r4 5 rfl rfl rfl rfl) rfl) ?_
  refine s_gval rfl rfl rfl (by first | exact w_ff rfl | exact w_gf rfl) (fun hc => v_fa fa33_3 rfl (by first | exact gve hc rfl | exact gve (and_l hc) rfl | exact gve (and_l (and_l hc)) rfl | rfl)) ?_
  refine s_gval rfl rfl rfl (by first | exact w_ff rfl | exact w_gf rfl) (fun hc => v_load rfl (by first | exact gve hc rfl | exact gve (and_l hc) rfl | exact gve (and_l (and_l hc)) rfl | rfl) Try.underlying28 rfl sz28 ((cx.row 0 rfl).r4 5 rfl rfl rfl rfl) rfl) ?_
  refine s_gval rfl rfl rfl (by first | exact w_ff rfl | exact w_gf rfl) (fun hc => v_agg eqg28 (ne28 _ _ _ _ _ _ _ _) rfl (by first | exact gve hc rfl | exact gve (and_l hc) rfl | exact gve (and_l (and_l hc)) rfl | rfl) (by first | exact gve hc rfl | exact gve (and_l hc) rfl | exact gve (and_l (and_l hc)) rfl | rfl)) ?_
  refine s_val rfl rfl (v_or rfl rfl rfl rfl) ?_
  refine s_val rfl rfl (v_move rfl rfl) ?_
  refine s_gval rfl rfl rfl (by first | exact w_ff rfl | exact w_gf rfl) (fun hc => v_fa fa33_4 rfl (by first | exact gve hc rfl | exact gve (and_l hc) rfl | exact gve (and_l (and_l hc)) rfl | rfl)) ?_
  refine s_gval rfl rfl rfl (by first | exact w_ff rfl | exact w_gf rfl) (fun hc => v_load1 rfl (by first | exact gve hc rfl | exact gve (and_l hc) rfl | exact gve (and_l (and_l hc)) rfl | rfl) Try.underlying9 rfl (cx.cell 1 rfl rfl)) ?_
  refine s_gval rfl rfl rfl (by first | exact w_ff rfl | exact w_gf rfl) (fun hc => v_fa fa33_4 rfl (by first | exact gve hc rfl | exact gve (and_l hc) rfl | exact gve (and_l (and_l hc)) rfl | rfl)) ?_
  refine s_gval rfl rfl rfl (by first | exact w_ff rfl | exact w_gf rfl) (fun hc => v_load1 rfl (by first | exact gve hc rfl | exact gve (and_l hc) rfl | exact gve (and_l (and_l hc)) rfl | rfl) Try.underlying9 rfl (cx.cell 0 rfl rfl)) ?_
  refine s_gval rfl rfl rfl (by first | exact w_ff rfl | exact w_gf rfl) (fun hc => v_strNe rfl (by first | exact gve hc rfl | exact gve (and_l hc) rfl | exact gve (and_l (and_l hc)) rfl | rfl) (by first | exact gve hc rfl | exact gve (and_l hc) rfl | exact gve (and_l (and_l hc)) rfl | rfl)) ?_
  refine s_val rfl rfl (v_or rfl rfl rfl rfl) ?_
  refine s_val rfl rfl (v_move rfl rfl) ?_
  refine s_gval rfl rfl rfl (by first | exact w_ff rfl | exact w_gf rfl) (fun hc => v_fa fa33_5 rfl (by first | exact gve hc rfl | exact gve (and_l hc) rfl | exact gve (and_l (and_l hc)) rfl | rfl)) ?_
  refine s_gval rfl rfl rfl (by first | exact w_ff rfl | exact w_gf rfl) (fun hc => v_load1 rfl (by first | exact gve hc rfl | exact gve (and_l hc) rfl | exact gve (and_l (and_l hc)) rfl | rfl) Try.underlying29 rfl (cx.cell 1 rfl rfl)) ?_
  refine s_gval rfl rfl rfl (by first | exact w_ff rfl | exact w_gf rfl) (fun hc => v_b2sR rfl Try.underlying29 Try.underlying5 Try.underlying9 (RepB.mono (fun _ h => h) (fun b hb => cx.ext.block b hb) hB1) (by first | exact gve hc rfl | exact gve (and_l hc) rfl | exact gve (and_l (and_l hc)) rfl | rfl)) ?_
  refine s_gval rfl rfl rfl (by first | exact w_ff rfl | exact w_gf rfl) (fun hc => v_fa fa33_5 rfl (by first | exact gve hc rfl | exact gve (and_l hc) rfl | exact gve (and_l (and_l hc)) rfl | rfl)) ?_
  refine s_gval rfl rfl rfl (by first | exact w_ff rfl | exact w_gf rfl) (fun hc => v_load1 rfl (by first | exact gve hc rfl | exact gve (and_l hc) rfl | exact gve (and_l (and_l hc)) rfl | rfl) Try.underlying29 rfl (cx.cell 0 rfl rfl)) ?_
  refine s_gval rfl rfl rfl (by first | exact w_ff rfl | exact w_gf rfl) (fun hc => v_b2sR rfl Try.underlying29 Try.underlying5 Try.underlying9 (RepB.mono (fun _ h => h) (fun b hb => cx.ext.block b hb) hB2) (by first | exact gve hc rfl | exact gve (and_l hc) rfl | exact gve (and_l (and_l hc)) rfl | rfl)) ?_
  refine s_gval rfl rfl rfl (by first | exact w_ff rfl | exact w_gf rfl) (fun hc => v_strNe rfl (by first | exact gve hc rfl | exact gve (and_l hc) rfl | exact gve (and_l (and_l hc)) rfl | rfl) (by first | exact gve hc rfl | exact gve (and_l hc) rfl | exact gve (and_l (and_l hc)) rfl | rfl)) ?_
  refine s_val rfl rfl (v_or rfl rfl rfl rfl) ?_
  refine s_val rfl rfl (v_move rfl rfl) ?_
  refine s_gval rfl rfl rfl (by first | exact w_ff rfl | exact w_gf rfl) (fun hc => v_fa fa33_6 rfl (by first | exact gve hc rfl | exact gve (and_l hc) rfl | exact gve (and_l (and_l hc)) rfl | rfl)) ?_
  refine s_gval rfl rfl rfl (by first | exact w_ff rfl | exact w_gf rfl) (fun hc => v_load1 rfl (by first | exact gve hc rfl | exact gve (and_l hc) rfl | exact gve (and_l (and_l hc)) rfl | rfl) Try.underlying30 rfl (cx.cell 1 rfl rfl)) ?_
  refine s_gval rfl rfl rfl (by first | exact w_ff rfl | exact w_gf rfl) (fun hc => v_lenSlice rfl (by first | exact gve hc rfl | exact gve (and_l hc) rfl | exact gve (and_l (and_l hc)) rfl | rfl) Try.underlying30) ?_
  refine s_gval rfl rfl rfl (by first | exact w_ff rfl | exact w_gf rfl) (fun hc => v_fa fa33_6 rfl (by first | exact gve hc rfl | exact gve (and_l hc) rfl | exact gve (and_l (and_l hc)) rfl | rfl)) ?_
  refine s_gval rfl rfl rfl (by first | exact w_ff rfl | exact w_gf rfl) (fun hc => v_load1 rfl (by first | exact gve hc rfl | exact gve (and_l hc) rfl | exact gve (and_l (and_l hc)) rfl | rfl) Try.underlying30 rfl (cx.cell 0 rfl rfl)) ?_
  refine s_gval rfl rfl rfl (by first | exact w_ff rfl | exact w_gf rfl) (fun hc => v_lenSlice rfl (by first | exact gve hc rfl | exact gve (and_l hc) rfl | exact gve (and_l (and_l hc)) rfl | rfl) Try.underlying30) ?_
  refine s_gval rfl rfl rfl (by first | exact w_ff rfl | exact w_gf rfl) (fun hc => v_cmp rfl (by first | exact gve hc rfl | exact gve (and_l hc) rfl | exact gve (and_l (and_l hc)) rfl | rfl) (by first | exact gve hc rfl | exact gve (and_l hc) rfl | exact gve (and_l (and_l hc)) rfl | rfl) rfl) ?_
  refine s_val rfl rfl (v_or rfl rfl rfl rfl) ?_
  refine s_val rfl rfl (v_move rfl rfl) ?_
  refine s_gval rfl rfl rfl (by first | exact w_ff rfl | exact w_gf rfl) (fun hc => v_fa fa33_7 rfl (by first | exact gve hc rfl | exact gve (and_l hc) rfl | exact gve (and_l (and_l hc)) rfl | rfl)) ?_
  refine s_gval rfl rfl rfl (by first | exact w_ff rfl | exact w_gf rfl) (fun hc => v_load1 rfl (by first | exact gve hc rfl | exact gve (and_l hc) rfl | exact gve (and_l (and_l hc)) rfl | rfl) Try.underlying31 rfl (cx.cell 1 rfl rfl)) ?_
  refine s_gval rfl rfl rfl (by first | exact w_ff rfl | exact w_gf rfl) (fun hc => v_lenSlice rfl (by first | exact gve hc rfl | exact gve (and_l hc) rfl | exact gve (and_l (and_l hc)) rfl | rfl) Try.underlying31) ?_
  refine s_gval rfl rfl rfl (by first | exact w_ff rfl | exact w_gf rfl) (fun hc => v_fa fa33_7 rfl (by first | exact gve hc rfl | exact gve (and_l hc) rfl | exact gve (and_l (and_l hc)) rfl | rfl)) ?_
  refine s_gval rfl rfl rfl (by first | exact w_ff rfl | exact w_gf rfl) (fun hc => v_load1 rfl (by first | exact gve hc rfl | exact gve (and_l hc) rfl | exact gve (and_l (and_l hc)) rfl | rfl) Try.underlying31 rfl (cx.cell 0 rfl rfl)) ?_
  refine s_gval rfl rfl rfl (by first | exact w_ff rfl | exact w_gf rfl) (fun hc => v_lenSlice rfl (by first | exact gve hc rfl | exact gve (and_l hc) rfl | exact gve (and_l (and_l hc)) rfl | rfl) Try.underlying31) ?_
  refine s_gval rfl rfl rfl (by first | exact w_ff rfl | exact w_gf rfl) (fun hc => v_cmp rfl (by first | exact gve hc rfl | exact gve (and_l hc) rfl | exact gve (and_l (and_l hc)) rfl | rfl) (by first | exact gve hc rfl | exact gve (and_l hc) rfl | exact gve (and_l (and_l hc)) rfl | rfl) rfl) ?_
  refine s_val rfl rfl (v_or rfl rfl rfl rfl) ?_
  refine wpList_nil ?_
  refine c_split rfl (fun hc66 => ?_) (fun hc66 => ?_)
  · skip
    exfalso
    simp at hc66
  · skip
    clear hc66
    refine wp_skip ?_
    refine wp_seq ?_
    refine wp_seq ?_
    refine wp_region_lit ?_
    refine s_val rfl rfl (v_assign rfl rfl) ?_
    refine wpList_nil ?_
    refine wp_block ?_
    refine w_loop (fun k f w1 => ∃ i : Nat, k + i = v.list.length ∧ f 2 = .pointer (some ⟨b2, 0, none⟩) ∧ f 3 = .pointer (some ⟨b3, 0, none⟩) ∧ f 5 = .int .i64 i ∧ Ctx w0 w1 [(b3, .cells (vrow v.sc bs2 (.slice la2 v.list.length lc2) (.slice fa2 v.fields.length fc2)).toArray 33), (b2, .cells (vrow v.sc bs1 (.slice la1 v.list.length lc1) (.slice fa1 v.fields.length fc1)).toArray 33)]) (v.list.length) ?_ ?_
    · skip
      exact ⟨0, by omega, rfl, rfl, rfl, cx⟩
    intro gk4 f w hJ
    obtain ⟨i, hki, hs2, hs3, hs5, cx⟩ := hJ
    refine wp_seq ?_
    refine wp_seq ?_
    refine wp_region_lit ?_
    refine s_val rfl rfl (v_move rfl hs5) ?_
    refine s_val rfl rfl (v_fa fa33_6 rfl hs2) ?_
    refine s_val rfl rfl (v_load1 rfl rfl Try.underlying30 rfl (cx.cell 1 rfl rfl)) ?_
    refine s_val rfl rfl (v_lenSlice rfl rfl Try.underlying30) ?_
    refine s_val rfl rfl (v_cmp rfl rfl rfl rfl) ?_
    refine wpList_nil ?_
    refine c_split rfl (fun hc71 => ?_) (fun hc71 => ?_)
    · skip
      try simp only [Bool.and_eq_true, Bool.or_eq_true, Bool.and_eq_false_iff, Bool.or_eq_false_iff, Bool.not_eq_true', Bool.not_eq_false', decide_eq_true_eq, decide_eq_false_iff_not, beq_iff_eq, beq_eq_false_iff_ne, bne_iff_ne, bne_eq_false_iff_eq, ne_eq, Classical.not_not] at hc71
      obtain ⟨x1, hx1, hv1⟩ := hl1 i v.list[i] (List.getElem?_eq_getElem (by omega))
      obtain ⟨x2, hx2, hv2⟩ := hl2 i v.list[i] (List.getElem?_eq_getElem (by omega))
      obtain rfl := ha1 (by omega)
      obtain rfl := ha2 (by omega)
      refine wp_skip ?_
      refine wp_seq ?_
      refine wp_block ?_
      refine wp_seq ?_
      refine w_ord cx (cx.noR) mixed [(0, 74), (1, 75), (2, 76), (3, 77), (4, 78), (5, 79), (6, 80), (7, 81), (8, 82), (9, 83)] #[true, true, true, true, true, true, true, true, true, true, false, false] (by kernel_rfl) (by kernel_rfl) (by kernel_rfl) (by kernel_rfl) ?_
      refine pu_one rfl (wnt_none rfl) (fun w cx => v_fa fa33_6 rfl hs2) ?_
      refine pu_one rfl (wnt_none rfl) (fun w cx => v_load1 rfl rfl Try.underlying30 rfl (cx.cell 1 rfl rfl)) ?_
      refine pu_one rfl (wnt_none rfl) (fun w cx => v_move rfl hs5) ?_
      refine pu_one rfl (wnt_none rfl) (fun w cx => v_ia Try.underlying30 sz33 rfl rfl rfl (by omega) (by omega)) ?_
      refine pu_one rfl (wnt_none rfl) (fun w cx => v_load rfl rfl Try.underlying33 rfl sz33 (hx1.up cx.ext) hv1.len) ?_
      refine pu_one rfl (wnt_none rfl) (fun w cx => v_fa fa33_6 rfl hs3) ?_
      refine pu_one rfl (wnt_none rfl) (fun w cx => v_load1 rfl rfl Try.underlying30 rfl (cx.cell 0 rfl rfl)) ?_
      refine pu_one rfl (wnt_none rfl) (fun w cx => v_move rfl hs5) ?_
      refine pu_one rfl (wnt_none rfl) (fun w cx => v_ia Try.underlying30 sz33 rfl rfl rfl (by omega) (by omega)) ?_
      refine pu_one rfl (wnt_none rfl) (fun w cx => v_load rfl rfl Try.underlying33 rfl sz33 (hx2.up cx.ext) hv2.len) ?_
      refine pu_nil ?_; intro w cx hwD6
      refine x_one (i := 10) (by kernel_rfl) rfl ?_
      refine s_fnB cx (ihl _ (List.getElem_mem _) _ _ _ (hv1.up cx.ext) (hv2.up cx.ext) (hfin.elem (List.getElem_mem _))) Try.func22 rfl rfl rfl rfl rfl rfl ?_; intro q84 w cx hw84 hp84
      refine x_next ⟨.inr (by kernel_rfl), ?_⟩
      refine x_one (i := 11) (by kernel_rfl) rfl ?_
      refine s_val rfl rfl (v_not rfl rfl) ?_
      refine x_next ⟨.inr (by kernel_rfl), ?_⟩
      refine x_done (by kernel_rfl) ?_
      refine c_split rfl (fun hc85 => ?_) (fun hc85 => ?_)
      · skip
        exfalso
        rw [hp84] at hc85
        cases hc85
      · skip
        skip
        refine wp_skip ?_
        refine wp_region_lit ?_
        refine s_val rfl rfl (v_move rfl hs5) ?_
        refine s_val rfl rfl (v_add rfl rfl rfl (by omega) (by omega)) ?_
        refine s_val rfl rfl (v_assign rfl rfl) ?_
        refine wpList_nil ?_
        exact ⟨gk4 - 1, _, by omega, rfl, i + 1, by omega, hs2, hs3, rfl, cx⟩
    · skip
      try simp only [Bool.and_eq_true, Bool.or_eq_true, Bool.and_eq_false_iff, Bool.or_eq_false_iff, Bool.not_eq_true', Bool.not_eq_false', decide_eq_true_eq, decide_eq_false_iff_not, beq_iff_eq, beq_eq_false_iff_ne, bne_iff_ne, bne_eq_false_iff_eq, ne_eq, Classical.not_not] at hc71
      refine wp_exit ?_
      refine wp_seq ?_
      refine wp_seq ?_
      refine wp_region_lit ?_
      refine s_val rfl rfl (v_assign rfl rfl) ?_
      refine wpList_nil ?_
      refine wp_block ?_
      refine w_loop (fun k f w1 => ∃ i : Nat, k + i = v.fields.length ∧ f 2 = .pointer (some ⟨b2, 0, none⟩) ∧ f 3 = .pointer (some ⟨b3, 0, none⟩) ∧ f 6 = .int .i64 i ∧ Ctx w0 w1 [(b3, .cells (vrow v.sc bs2 (.slice la2 v.list.length lc2) (.slice fa2 v.fields.length fc2)).toArray 33), (b2, .cells (vrow v.sc bs1 (.slice la1 v.list.length lc1) (.slice fa1 v.fields.length fc1)).toArray 33)]) (v.fields.length) ?_ ?_
      · skip
        exact ⟨0, by omega, hs2, hs3, rfl, cx⟩
      intro gk9 f w hJ
      obtain ⟨i, hki, hs2, hs3, hs6, cx⟩ := hJ
      refine wp_seq ?_
      refine wp_seq ?_
      refine wp_region_lit ?_
      refine s_val rfl rfl (v_move rfl hs6) ?_
      refine s_val rfl rfl (v_fa fa33_7 rfl hs2) ?_
      refine s_val rfl rfl (v_load1 rfl rfl Try.underlying31 rfl (cx.cell 1 rfl rfl)) ?_
      refine s_val rfl rfl (v_lenSlice rfl rfl Try.underlying31) ?_
      refine s_val rfl rfl (v_cmp rfl rfl rfl rfl) ?_
      refine wpList_nil ?_
      refine c_split rfl (fun hc90 => ?_) (fun hc90 => ?_)
      · skip
        try simp only [Bool.and_eq_true, Bool.or_eq_true, Bool.and_eq_false_iff, Bool.or_eq_false_iff, Bool.not_eq_true', Bool.not_eq_false', decide_eq_true_eq, decide_eq_false_iff_not, beq_iff_eq, beq_eq_false_iff_ne, bne_iff_ne, bne_eq_false_iff_eq, ne_eq, Classical.not_not] at hc90
        obtain ⟨x1, hx1, hv1⟩ := hf1 i v.fields[i] (List.getElem?_eq_getElem (by omega))
        obtain ⟨x2, hx2, hv2⟩ := hf2 i v.fields[i] (List.getElem?_eq_getElem (by omega))
        obtain rfl := hg1 (by omega)
        obtain rfl := hg2 (by omega)
        obtain ⟨y1, y2, y3, rfl, _⟩ := hv1.open
        obtain ⟨z1, z2, z3, rfl, _⟩ := hv2.open
        refine wp_skip ?_
        refine wp_seq ?_
        refine wp_block ?_
        refine wp_seq ?_
        refine w_ord cx (cx.noR) mixed [(0, 93), (1, 94), (2, 95), (3, 96), (4, 97), (5, 98), (6, 99), (7, 100), (8, 101), (9, 102), (10, 103), (11, 104), (12, 105), (13, 106), (14, 107), (15, 108), (16, 109), (17, 110), (18, 111), (19, 112), (20, 113), (21, 114), (22, 115), (23, 116), (24, 117), (25, 118)] #[true, true, true, true, true, true, true, true, true, true, true, true, true, true, true, true, true, true, true, true, true, true, true, true, true, true, false, false, false] (by kernel_rfl) (by kernel_rfl) (by kernel_rfl) (by kernel_rfl) ?_
        refine pu_one rfl (wnt_none rfl) (fun w cx => v_fa fa33_7 rfl hs2) ?_
        refine pu_one rfl (wnt_none rfl) (fun w cx => v_load1 rfl rfl Try.underlying31 rfl (cx.cell 1 rfl rfl)) ?_
        refine pu_one rfl (wnt_none rfl) (fun w cx => v_move rfl hs6) ?_
        refine pu_one rfl (wnt_none rfl) (fun w cx => v_ia Try.underlying31 sz77 rfl rfl rfl (by omega) (by omega)) ?_
        refine pu_one rfl (wnt_none rfl) (fun w cx => v_fa fa77_0 rfl rfl) ?_
        refine pu_one rfl (wnt_none rfl) (fun w cx => v_load1 rfl rfl Try.underlying9 rfl ((hx1.up cx.ext).cell 0 rfl)) ?_
        refine pu_one rfl (wnt_none rfl) (fun w cx => v_fa fa33_7 rfl hs3) ?_
        refine pu_one rfl (wnt_none rfl) (fun w cx => v_load1 rfl rfl Try.underlying31 rfl (cx.cell 0 rfl rfl)) ?_
        refine pu_one rfl (wnt_none rfl) (fun w cx => v_move rfl hs6) ?_
        refine pu_one rfl (wnt_none rfl) (fun w cx => v_ia Try.underlying31 sz77 rfl rfl rfl (by omega) (by omega)) ?_
        refine pu_one rfl (wnt_none rfl) (fun w cx => v_fa fa77_0 rfl rfl) ?_
        refine pu_one rfl (wnt_none rfl) (fun w cx => v_load1 rfl rfl Try.underlying9 rfl ((hx2.up cx.ext).cell 0 rfl)) ?_
        refine pu_one rfl (wnt_none rfl) (fun w cx => v_strSame rfl rfl rfl) ?_
        refine pu_one rfl (wnt_none rfl) (fun w cx => v_move rfl rfl) ?_
        refine pu_one rfl (wnt_some rfl rfl (w_ff rfl)) (fun w cx => v_fa fa33_7 rfl hs2) ?_
        refine pu_one rfl (wnt_some rfl rfl (w_ff rfl)) (fun w cx => v_load1 rfl rfl Try.underlying31 rfl (cx.cell 1 rfl rfl)) ?_
        refine pu_one rfl (wnt_some rfl rfl (w_ff rfl)) (fun w cx => v_move rfl hs6) ?_
        refine pu_one rfl (wnt_some rfl rfl (w_ff rfl)) (fun w cx => v_ia Try.underlying31 sz77 rfl rfl rfl (by omega) (by omega)) ?_
        refine pu_one rfl (wnt_some rfl rfl (w_ff rfl)) (fun w cx => v_fa fa77_1 rfl rfl) ?_
        refine pu_one rfl (wnt_some rfl rfl (w_ff rfl)) (fun w cx => v_load rfl rfl Try.underlying33 rfl sz33 ((hx1.up cx.ext).rv 1 rfl) rfl) ?_
        refine pu_one rfl (wnt_some rfl rfl (w_ff rfl)) (fun w cx => v_fa fa33_7 rfl hs3) ?_
        refine pu_one rfl (wnt_some rfl rfl (w_ff rfl)) (fun w cx => v_load1 rfl rfl Try.underlying31 rfl (cx.cell 0 rfl rfl)) ?_
        refine pu_one rfl (wnt_some rfl rfl (w_ff rfl)) (fun w cx => v_move rfl hs6) ?_
        refine pu_one rfl (wnt_some rfl rfl (w_ff rfl)) (fun w cx => v_ia Try.underlying31 sz77 rfl rfl rfl (by omega) (by omega)) ?_
        refine pu_one rfl (wnt_some rfl rfl (w_ff rfl)) (fun w cx => v_fa fa77_1 rfl rfl) ?_
        refine pu_one rfl (wnt_some rfl rfl (w_ff rfl)) (fun w cx => v_load rfl rfl Try.underlying33 rfl sz33 ((hx2.up cx.ext).rv 1 rfl) rfl) ?_
        refine pu_nil ?_; intro w cx hwD11
        refine x_one (i := 26) (by kernel_rfl) rfl ?_
        refine s_gfnB cx rfl rfl rfl (by exact w_ff rfl) (fun hc => ihf _ (List.getElem_mem _) _ _ _ (hv1.up cx.ext) (hv2.up cx.ext) (hfin.field (List.getElem_mem _)).2) Try.func22 rfl rfl rfl (fun hc => rfl) ?_; intro q119 w cx hw119 hp119
        refine x_next ⟨.inr (by kernel_rfl), ?_⟩
        refine x_one (i := 27) (by kernel_rfl) rfl ?_
        refine s_gval rfl rfl rfl (by first | exact w_ff rfl | exact w_gf rfl) (fun hc => v_not rfl (by first | exact gve hc rfl | exact gve (and_l hc) rfl | exact gve (and_l (and_l hc)) rfl | rfl)) ?_
        refine x_next ⟨.inr (by kernel_rfl), ?_⟩
        refine x_one (i := 28) (by kernel_rfl) rfl ?_
        refine s_val rfl rfl (v_or rfl rfl rfl rfl) ?_
        refine x_next ⟨.inr (by kernel_rfl), ?_⟩
        refine x_done (by kernel_rfl) ?_
        refine c_split rfl (fun hc121 => ?_) (fun hc121 => ?_)
        · skip
          exfalso
          rw [hp119 rfl] at hc121
          cases hc121
        · skip
          skip
          refine wp_skip ?_
          refine wp_region_lit ?_
          refine s_val rfl rfl (v_move rfl hs6) ?_
          refine s_val rfl rfl (v_add rfl rfl rfl (by omega) (by omega)) ?_
          refine s_val rfl rfl (v_assign rfl rfl) ?_
          refine wpList_nil ?_
          exact ⟨gk9 - 1, _, by omega, rfl, i + 1, by omega, hs2, hs3, rfl, cx⟩
      · skip
        try simp only [Bool.and_eq_true, Bool.or_eq_true, Bool.and_eq_false_iff, Bool.or_eq_false_iff, Bool.not_eq_true', Bool.not_eq_false', decide_eq_true_eq, decide_eq_false_iff_not, beq_iff_eq, beq_eq_false_iff_ne, bne_iff_ne, bne_eq_false_iff_eq, ne_eq, Classical.not_not] at hc90
        refine wp_exit ?_
        refine wp_seq ?_
        refine wp_region_lit ?_
        refine s_val rfl rfl (v_assign rfl rfl) ?_
        refine wpList_nil ?_
        refine wp_ret ?_
        refine ret_tmp Try.results22 rfl ?_
        exact ⟨cx.ext, _, rfl, rfl⟩
end Go.Proofs.Ytmkihcdcgkdilaa
