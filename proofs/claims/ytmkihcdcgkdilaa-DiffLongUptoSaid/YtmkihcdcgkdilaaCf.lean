/-
  Contracts: Copy and Field of the program; field and without of merge.
-/
import Derived.Test.YtmkihcdcgkdilaaCe
namespace Go.Proofs.Ytmkihcdcgkdilaa
open Go Go.Dk Go.RowKit
set_option linter.unusedSimpArgs false
set_option linter.unusedVariables false
attribute [local irreducible] Go.wpList Go.Code.wp Go.bodyPost Go.wpStill
set_option maxRecDepth 10000 in
theorem c60 (k : Nat) (v : V) (r : List Value) (w0 : World) (hd : deep k v) (hk : k ≤ 65536) (hv : Val w0 v r) (hf : Fine v) : Fc Try.prog 60 [.agg r.toArray] w0 (fun x w' => Made w0 w' v x) := by
  refine ret_enter Try.func60 rfl Try.ntmps60 rfl ?_
  have cx := Ctx.start w0
  refine wp_seq ?_
  refine wp_region_lit ?_
  refine s_box cx rfl rfl rfl rfl rfl ?_; intro b1 w cx hb1 hw1
  refine s_alloc cx z33 rfl rfl rfl ?_; intro b2 w cx hb2 hw2
  refine wpList_nil ?_
  refine wp_seq ?_
  refine wp_region_lit ?_
  refine s_val rfl rfl (v_load rfl rfl Try.underlying33 rfl sz33 (cx.row 1 rfl) hv.len) ?_
  have cxc := cx
  refine s_fn cx (c88 k v r _ _ hd (by omega) (by omega) (hv.up cx.ext) hf) Try.func88 rfl rfl rfl rfl rfl rfl ?_; intro q4 w cx hw4 hp4
  have hKn := Kp.fr hw4
  obtain ⟨r4, rfl, hm⟩ := hp4.rep
  refine s_storeAllG cx 0 rfl rfl rfl rfl rfl rfl (by rw [hm.len]; exact sz33) (by rw [hm.len]; rfl) hm.one ?_; intro w cx hg2
  replace hKn := hKn.grown hg2 (fun b hb e => by have h1 := (cxc.lts b2 (by simp)).2; have h2 := hb.1; simp at e; omega)
  refine wpList_nil ?_
  refine wp_ret ?_
  exact ret_cell Try.results60 rfl (cx.at 0 rfl) Try.underlying33 rfl (by rw [hm.len]; exact sz33) ⟨cx.ext, hp4.up cxc.ext.size hKn⟩

set_option maxRecDepth 10000 in
theorem c80 (k : Nat) (v : V) (r : List Value) (key : ByteArray) (w0 : World) (hd : deep k v) (hk : k ≤ 65536) (hv : Val w0 v r) (hf : Fine v) (h7 : v.sc.kind = 7) : Fc Try.prog 80 [.agg r.toArray, .string key] w0 (fun x w' => ∃ (l : List Value) (bb : Bool), x = .tuple #[.agg l.toArray, .bool bb] ∧ l.length = 13 ∧ l.all (·.oneCell') = true ∧ match hasF key v.fields with | some u => bb = true ∧ Made w0 w' u (.agg l.toArray) | none => bb = false) := by
  obtain ⟨bs, ls, fs, rfl, hbs, hls, hfs⟩ := hv.open
  obtain ⟨fa, fc, fb, fo, rfl, hfa, hfget⟩ := hfs.open
  obtain ⟨kk, rfl⟩ : ∃ kk, k = kk + 1 := by cases k with
    | zero => exact hd.elim
    | succ k => exact ⟨k, rfl⟩
  have hself := hf.self
  refine ret_enter Try.func80 rfl Try.ntmps80 rfl ?_
  have cx := Ctx.start w0
  refine wp_seq ?_
  refine wp_region_lit ?_
  refine s_box cx rfl rfl rfl rfl rfl ?_; intro b2 w cx hb2 hw2
  refine s_alloc cx z33 rfl rfl rfl ?_; intro b4 w cx hb4 hw4
  refine s_val rfl rfl (v_assign rfl rfl) ?_
  refine wpList_nil ?_
  refine wp_seq ?_
  refine wp_seq ?_
  refine wp_region_lit ?_
  refine s_val rfl rfl (v_fa fa33_7 rfl rfl) ?_
  refine s_val rfl rfl (v_load1 rfl rfl Try.underlying31 rfl (cx.cell 1 rfl rfl)) ?_
  refine s_val rfl rfl (v_lenSlice rfl rfl Try.underlying31) ?_
  refine s_val rfl rfl (v_move rfl rfl) ?_
  refine wpList_nil ?_
  refine wp_block ?_
  refine w_loop (fun k f w1 => ∃ i : Nat, k + i = v.fields.length ∧ f 1 = .string key ∧ f 2 = .pointer (some ⟨b2, 0, none⟩) ∧ f 4 = .pointer (some ⟨b4, 0, none⟩) ∧ f 9 = .slice fa v.fields.length fc ∧ f 10 = .int .i64 v.fields.length ∧ f 11 = .int .i64 i ∧ Cxr w0 w1 [(b4, .cells ([.int .i64 0, .bool false, .bool false, .string ByteArray.empty, .int .i64 0, .int .i64 0, .int .i64 0, .int .i64 0, .int .i64 0, .string ByteArray.empty, .slice none 0 0, .slice none 0 0, .slice none 0 0] : List Value).toArray 33), (b2, .cells (vrow v.sc bs ls (.slice fa v.fields.length fc)).toArray 33)] [] ∧ ∀ j, j < i → ∀ kv, v.fields[j]? = some kv → kv.1 ≠ key) (v.fields.length) ?_ ?_
  · skip
    exact ⟨0, by omega, rfl, rfl, rfl, rfl, rfl, rfl, cx, fun j hj => by omega⟩
  intro gk2 f w hJ
  obtain ⟨i, hki, hs1, hs2, hs4, hs9, hs10, hs11, cx, hno⟩ := hJ
  refine wp_seq ?_
  refine wp_region_lit ?_
  refine s_val rfl rfl (v_cmp rfl hs11 hs10 rfl) ?_
  refine wpList_nil ?_
  refine wp_seq ?_
  refine c_split rfl (fun hc12 => ?_) (fun hc12 => ?_)
  · skip
    try simp only [Bool.and_eq_true, Bool.or_eq_true, Bool.and_eq_false_iff, Bool.or_eq_false_iff, Bool.not_eq_true', Bool.not_eq_false', decide_eq_true_eq, decide_eq_false_iff_not, beq_iff_eq, beq_eq_false_iff_ne, bne_iff_ne, bne_eq_false_iff_eq, ne_eq, Classical.not_not] at hc12
    obtain rfl := hfa (by omega)
    obtain ⟨r, hr, hrv⟩ := hfget i v.fields[i] (List.getElem?_eq_getElem (by omega))
    obtain ⟨ebs, els, efs, rfl, _⟩ := hrv.open
    refine wp_skip ?_
    refine wp_seq ?_
    refine wp_block ?_
    refine wp_seq ?_
    refine wp_region_lit ?_
    refine s_val rfl rfl (v_ia Try.underlying31 sz77 rfl hs9 hs11 (by omega) (by omega)) ?_
    refine s_val rfl rfl (v_load rfl rfl Try.underlying77 rfl sz77 (hr.up cx.ext) rfl) ?_
    refine s_alloc cx z77 rfl rfl rfl ?_; intro b7 w cx hb7 hw7
    refine s_storeAllG cx 0 rfl rfl rfl rfl rfl rfl sz77 rfl (by exact hrv.oneCell) ?_; intro w cx hg7
    refine wpList_nil ?_
    refine wp_seq ?_
    refine wp_region_lit ?_
    refine s_val rfl rfl (v_fa fa33_0 rfl hs2) ?_
    refine s_val rfl rfl (v_load1 rfl rfl Try.underlying3 rfl (cx.cell 2 rfl rfl)) ?_
    refine s_val rfl rfl (v_cmp rfl rfl rfl rfl) ?_
    refine s_val rfl rfl (v_move rfl rfl) ?_
    refine s_gval rfl rfl rfl (by first | exact w_tt rfl | exact w_gt rfl) (fun hc => v_fa fa77_0 rfl (by first | exact gve hc rfl | exact gve (and_l hc) rfl | exact gve (and_l (and_l hc)) rfl | rfl)) ?_
    refine s_gval rfl rfl rfl (by first | exact w_tt rfl | exact w_gt rfl) (fun hc => v_load1 rfl (by first | exact gve hc rfl | exact gve (and_l hc) rfl | exact gve (and_l (and_l hc)) rfl | rfl) Try.underlying9 rfl (cx.cell 0 rfl rfl)) ?_
    refine s_gval rfl rfl rfl (by first | exact w_tt rfl | exact w_gt rfl) (fun hc => v_move rfl hs1) ?_
    refine s_gval rfl rfl rfl (by first | exact w_tt rfl | exact w_gt rfl) (fun hc => v_strEq rfl (by first | exact gve hc rfl | exact gve (and_l hc) rfl | exact gve (and_l (and_l hc)) rfl | rfl) (by first | exact gve hc rfl | exact gve (and_l hc) rfl | exact gve (and_l (and_l hc)) rfl | rfl)) ?_
    refine s_val rfl rfl (v_and rfl rfl rfl rfl) ?_
    refine wpList_nil ?_
    refine c_split rfl (fun hc23 => ?_) (fun hc23 => ?_)
    · skip
      try simp only [Bool.and_eq_true, Bool.or_eq_true, Bool.and_eq_false_iff, Bool.or_eq_false_iff, Bool.not_eq_true', Bool.not_eq_false', decide_eq_true_eq, decide_eq_false_iff_not, beq_iff_eq, beq_eq_false_iff_ne, bne_iff_ne, bne_eq_false_iff_eq, ne_eq, Classical.not_not] at hc23
      replace hc23 := hc23.2
      refine wp_seq ?_
      refine wp_region_lit ?_
      refine s_val rfl rfl (v_fa fa77_1 rfl rfl) ?_
      refine s_val rfl rfl (v_load rfl rfl Try.underlying33 rfl sz33 ((cx.row 0 rfl).rv 1 rfl) rfl) ?_
      have cxc := cx
      refine s_fn cx (c88 kk _ _ _ _ (hd.2 _ (List.getElem_mem _)) (by omega) (by omega) (hrv.up cx.ext) (hf.field (List.getElem_mem _)).2) Try.func88 rfl rfl rfl rfl rfl rfl ?_; intro q26 w cx hw26 hp26
      have hKn := Kp.fr hw26
      obtain ⟨r26, rfl, hm⟩ := hp26.rep
      refine s_storeAllG cx 1 rfl rfl rfl hs4 rfl rfl (by rw [hm.len]; exact sz33) (by rw [hm.len]; rfl) hm.one ?_; intro w cx hg4
      replace hKn := hKn.grown hg4 (fun b hb e => by have h1 := (cxc.lts b4 (by simp)).2; have h2 := hb.1; simp at e; omega)
      refine s_val rfl rfl (v_assign rfl rfl) ?_
      refine wpList_nil ?_
      refine wp_ret ?_
      refine ret_cell2 Try.results80 hs4 rfl (cx.at 1 rfl) Try.underlying33 rfl (by rw [hm.len]; exact sz33) ⟨cx.ext, ?_⟩
      rw [hasF_take hno (by omega) hc23]
      exact ⟨_, _, rfl, hm.len, hm.one, rfl, hp26.up cxc.ext.size hKn⟩
    · skip
      try simp only [Bool.and_eq_true, Bool.or_eq_true, Bool.and_eq_false_iff, Bool.or_eq_false_iff, Bool.not_eq_true', Bool.not_eq_false', decide_eq_true_eq, decide_eq_false_iff_not, beq_iff_eq, beq_eq_false_iff_ne, bne_iff_ne, bne_eq_false_iff_eq, ne_eq, Classical.not_not] at hc23
      have hne : v.fields[i].1 ≠ key := by
        rcases hc23 with h | h
        · exact absurd h7 h
        · exact h
      refine wp_skip ?_
      refine wp_region_lit ?_
      refine s_val rfl rfl (v_add rfl hs11 rfl (by omega) (by omega)) ?_
      refine s_val rfl rfl (v_move rfl rfl) ?_
      refine wpList_nil ?_
      refine ⟨gk2 - 1, _, by omega, rfl, i + 1, by omega, hs1, hs2, hs4, hs9, hs10, rfl, by simpa using cx.drop 1, fun j hj kv hkv => ?_⟩
      rcases Nat.lt_or_ge j i with h | h
      · exact hno j h kv hkv
      · obtain rfl : j = i := by omega
        rw [List.getElem?_eq_getElem (by omega)] at hkv
        obtain rfl := Option.some.inj hkv
        exact hne
  · skip
    try simp only [Bool.and_eq_true, Bool.or_eq_true, Bool.and_eq_false_iff, Bool.or_eq_false_iff, Bool.not_eq_true', Bool.not_eq_false', decide_eq_true_eq, decide_eq_false_iff_not, beq_iff_eq, beq_eq_false_iff_ne, bne_iff_ne, bne_eq_false_iff_eq, ne_eq, Classical.not_not] at hc12
    refine wp_exit ?_
    refine wp_seq ?_
    refine wp_region_lit ?_
    refine s_val rfl rfl (v_build bd33 rfl rfl) ?_
    refine s_storeAllG cx 0 rfl rfl rfl hs4 rfl rfl sz33 rfl rfl ?_; intro w cx hg4
    refine s_val rfl rfl (v_assign rfl rfl) ?_
    refine wpList_nil ?_
    refine wp_ret ?_
    refine ret_cell2 Try.results80 hs4 rfl (cx.at 0 rfl) Try.underlying33 rfl sz33 ⟨cx.ext, ?_⟩
    rw [hasF_none (fun j kv hj => hno j (by have := (List.getElem?_eq_some_iff.1 hj).1; omega) kv hj)]
    exact ⟨_, _, rfl, rfl, rfl, rfl⟩

set_option maxRecDepth 10000 in
theorem c61 (k : Nat) (v : V) (r : List Value) (b : Nat) (key : ByteArray) (w0 : World) (hd : deep k v) (hk : k ≤ 65536) (hr : RowAt w0 b 0 r) (hv : Val w0 v r) (hf : Fine v) (h7 : v.sc.kind = 7) : Fc Try.prog 61 [.pointer (some ⟨b, 0, none⟩), .string key] w0 (fun x w' => match hasF key v.fields with | some u => ∃ b' r', x = .pointer (some ⟨b', 0, none⟩) ∧ RowAt w' b' 0 r' ∧ Val w' u r' | none => x = .pointer none) := by
  obtain ⟨bs, ls, fs, rfl, _⟩ := hv.open
  refine ret_enter Try.func61 rfl Try.ntmps61 rfl ?_
  have cx := Ctx.start w0
  refine wp_seq ?_
  refine wp_region_lit ?_
  refine s_val rfl rfl (v_assign rfl rfl) ?_
  refine wpList_nil ?_
  refine wp_seq ?_
  refine wp_seq ?_
  refine wp_region_lit ?_
  refine s_val rfl rfl (v_move rfl rfl) ?_
  refine s_val rfl rfl (v_ptrNil rfl rfl rfl Try.underlying75) ?_
  refine s_val rfl rfl (v_move rfl rfl) ?_
  refine s_gval rfl rfl rfl (by first | exact w_ff rfl | exact w_gf rfl) (fun hc => v_move rfl (by first | exact gve hc rfl | exact gve (and_l hc) rfl | exact gve (and_l (and_l hc)) rfl | rfl)) ?_
  refine s_gval rfl rfl rfl (by first | exact w_ff rfl | exact w_gf rfl) (fun hc => v_nilCk rfl (gve hc rfl)) ?_
  refine s_gval rfl rfl rfl (by first | exact w_ff rfl | exact w_gf rfl) (fun hc => v_fa fa33_0 rfl (gve hc rfl)) ?_
  refine s_gval rfl rfl rfl (by first | exact w_ff rfl | exact w_gf rfl) (fun hc => v_load1 rfl (gve hc rfl) Try.underlying3 rfl ((hr.up cx.ext).cell 0 rfl)) ?_
  refine s_gval rfl rfl rfl (by first | exact w_ff rfl | exact w_gf rfl) (fun hc => v_cmp rfl (by first | exact gve hc rfl | exact gve (and_l hc) rfl | exact gve (and_l (and_l hc)) rfl | rfl) rfl rfl) ?_
  refine s_val rfl rfl (v_or rfl rfl rfl rfl) ?_
  refine wpList_nil ?_
  refine c_split rfl (fun hc15 => ?_) (fun hc15 => ?_)
  · skip
    simp [h7] at hc15
  · skip
    try simp only [Bool.and_eq_true, Bool.or_eq_true, Bool.and_eq_false_iff, Bool.or_eq_false_iff, Bool.not_eq_true', Bool.not_eq_false', decide_eq_true_eq, decide_eq_false_iff_not, beq_iff_eq, beq_eq_false_iff_ne, bne_iff_ne, bne_eq_false_iff_eq, ne_eq, Classical.not_not] at hc15
    refine wp_skip ?_
    refine wp_seq ?_
    refine wp_region_lit ?_
    refine s_val rfl rfl (v_move rfl rfl) ?_
    refine s_val rfl rfl (v_nilCk rfl rfl) ?_
    refine s_val rfl rfl (v_load rfl rfl Try.underlying33 rfl sz33 (hr.up cx.ext) rfl) ?_
    refine s_val rfl rfl (v_move rfl rfl) ?_
    have cxc := cx
    refine s_fn cx (c80 k v _ key _ hd hk (hv.up cx.ext) hf h7) Try.func80 rfl rfl rfl rfl rfl rfl ?_; intro q21 w cx hw21 hp21
    have hKn := Kp.fr hw21
    obtain ⟨l, bb, rfl, hl13, hl1, hz⟩ := hp21
    refine s_val rfl rfl (v_move rfl rfl) ?_
    refine s_val rfl rfl (v_extract rfl rfl rfl) ?_
    refine s_val rfl rfl (v_extract rfl rfl rfl) ?_
    refine s_alloc cx z33 rfl rfl rfl ?_; intro b5 w cx hb5 hw5
    have hl5 := Nat.le_trans hKn.sz (Nat.le_of_eq hb5)
    replace hKn := hKn.below hw5
    refine s_storeAllG cx 0 rfl rfl rfl rfl rfl rfl (by rw [hl13]; exact sz33) (by rw [hl13]; rfl) hl1 ?_; intro w cx hg5
    replace hKn := hKn.later hg5 hl5
    refine s_val rfl rfl (v_assign rfl rfl) ?_
    refine wpList_nil ?_
    refine wp_seq ?_
    refine wp_seq ?_
    refine wp_region_lit ?_
    refine s_val rfl rfl (v_move rfl rfl) ?_
    refine s_val rfl rfl (v_not rfl rfl) ?_
    refine wpList_nil ?_
    refine c_split rfl (fun hc25 => ?_) (fun hc25 => ?_)
    · skip
      skip
      refine wp_seq ?_
      refine wp_region_lit ?_
      refine s_val rfl rfl (v_assign rfl rfl) ?_
      refine wpList_nil ?_
      refine wp_ret ?_
      refine ret_tmp Try.results61 rfl ?_
      refine ⟨cx.ext, ?_⟩
      cases hh : hasF key v.fields with
      | none => rfl
      | some u =>
        rw [hh] at hz
        rw [hz.1] at hc25
        cases hc25
    · skip
      skip
      refine wp_skip ?_
      refine wp_seq ?_
      refine wp_region_lit ?_
      refine s_val rfl rfl (v_assign rfl rfl) ?_
      refine wpList_nil ?_
      refine wp_ret ?_
      refine ret_tmp Try.results61 rfl ?_
      refine ⟨cx.ext, ?_⟩
      cases hh : hasF key v.fields with
      | none =>
        rw [hh] at hz
        rw [hz] at hc25
        cases hc25
      | some u =>
        rw [hh] at hz
        obtain ⟨r', e, hv'⟩ := (hz.2.up cxc.ext.size hKn).rep
        obtain rfl : l = r' := by simpa using e
        exact ⟨b5, l, rfl, cx.row 0 rfl, RepV.mono (fun b hb => hb.2) (fun _ _ => rfl) _ _ hv'⟩

set_option maxRecDepth 10000 in
theorem c77 (A : Nat → Prop) (fs : List (ByteArray × V)) (s : Value) (key : ByteArray) (w0 : World) (hA : ∀ b, A b → b < w0.heap.size) (hv : RepF A w0 s fs) (hl : fs.length ≤ 1048576) : Fc Try.prog 77 [s, .string key] w0 (fun x w' => ∃ rs, w'.ownsRow w0.heap.size 77 14 x (dropF key fs).length rs.flatten ∧ RowsF A w' (dropF key fs) rs) := by
  obtain ⟨fb, fo, hsl, hreps⟩ := hv
  obtain ⟨fa, fc, rfl, hfa⟩ := hsl.form
  have hget := fun i kv h => RepFs.get fs fo i kv hreps h
  refine ret_enter Try.func77 rfl Try.ntmps77 rfl ?_
  have cx := Ctx.start w0
  refine wp_seq ?_
  refine wp_region_lit ?_
  refine s_val rfl rfl (v_assign rfl rfl) ?_
  refine wpList_nil ?_
  refine wp_seq ?_
  refine wp_region_lit ?_
  refine s_val rfl rfl (v_assign rfl rfl) ?_
  refine wpList_nil ?_
  refine wp_seq ?_
  refine wp_seq ?_
  refine wp_region_lit ?_
  replace cx := cx.nilRow 77 14
  refine s_val rfl rfl (v_move rfl rfl) ?_
  refine s_val rfl rfl (v_lenSlice rfl rfl Try.underlying31) ?_
  refine s_val rfl rfl (v_move rfl rfl) ?_
  refine wpList_nil ?_
  refine wp_block ?_
  refine w_loop (fun k f w1 => ∃ (i m : Nat) (x : Value) (rs : List (List Value)), k + i = fs.length ∧ m = (dropF key (fs.take i)).length ∧ f 1 = .string key ∧ f 8 = .slice fa fs.length fc ∧ f 9 = .int .i64 fs.length ∧ f 10 = .int .i64 i ∧ f 5 = x ∧ Cxr w0 w1 [] [⟨77, 14, x, m, rs.flatten⟩] ∧ RowsF A w0 (dropF key (fs.take i)) rs) (fs.length) ?_ ?_
  · skip
    exact ⟨0, 0, _, [], by omega, rfl, rfl, rfl, rfl, rfl, rfl, cx, trivial⟩
  intro gk3 f w hJ
  obtain ⟨i, m, x, rs, hki, hm, hs1, hs8, hs9, hs10, hs5, cx, hrows⟩ := hJ
  refine wp_seq ?_
  refine wp_region_lit ?_
  refine s_val rfl rfl (v_cmp rfl hs10 hs9 rfl) ?_
  refine wpList_nil ?_
  refine wp_seq ?_
  refine c_split rfl (fun hc11 => ?_) (fun hc11 => ?_)
  · skip
    try simp only [Bool.and_eq_true, Bool.or_eq_true, Bool.and_eq_false_iff, Bool.or_eq_false_iff, Bool.not_eq_true', Bool.not_eq_false', decide_eq_true_eq, decide_eq_false_iff_not, beq_iff_eq, beq_eq_false_iff_ne, bne_iff_ne, bne_eq_false_iff_eq, ne_eq, Classical.not_not] at hc11
    obtain rfl := hfa (by omega)
    obtain ⟨r, hr, hrv⟩ := hget i fs[i] (List.getElem?_eq_getElem (by omega))
    obtain ⟨ebs, els, efs, rfl, _⟩ := hrv.open
    have hmi : m ≤ i := by rw [hm]; exact Nat.le_trans (List.length_filter_le _ _) (by simp; omega)
    refine wp_skip ?_
    refine wp_seq ?_
    refine wp_block ?_
    refine wp_seq ?_
    refine wp_region_lit ?_
    refine s_val rfl rfl (v_ia Try.underlying31 sz77 rfl hs8 hs10 (by omega) (by omega)) ?_
    refine s_val rfl rfl (v_load rfl rfl Try.underlying77 rfl sz77 (hr.up cx.ext) rfl) ?_
    refine s_alloc cx z77 rfl rfl rfl ?_; intro b7 w cx hb7 hw7
    refine s_storeAllG cx 0 rfl rfl rfl rfl rfl rfl sz77 rfl (by exact hrv.one) ?_; intro w cx hg7
    refine wpList_nil ?_
    refine wp_seq ?_
    refine wp_region_lit ?_
    refine s_val rfl rfl (v_fa fa77_0 rfl rfl) ?_
    refine s_val rfl rfl (v_load1 rfl rfl Try.underlying9 rfl (cx.cell 0 rfl rfl)) ?_
    refine s_val rfl rfl (v_move rfl hs1) ?_
    refine s_val rfl rfl (v_strNe rfl rfl rfl) ?_
    refine wpList_nil ?_
    refine c_split rfl (fun hc17 => ?_) (fun hc17 => ?_)
    · skip
      try simp only [Bool.and_eq_true, Bool.or_eq_true, Bool.and_eq_false_iff, Bool.or_eq_false_iff, Bool.not_eq_true', Bool.not_eq_false', decide_eq_true_eq, decide_eq_false_iff_not, beq_iff_eq, beq_eq_false_iff_ne, bne_iff_ne, bne_eq_false_iff_eq, ne_eq, Classical.not_not] at hc17
      have hdt : dropF key (fs.take (i + 1)) = dropF key (fs.take i) ++ [fs[i]] := by
        rw [List.take_succ_eq_append_getElem (by omega), dropF_ne hc17]
      refine wp_region_lit ?_
      refine s_val rfl rfl (v_move rfl hs5) ?_
      refine s_val rfl rfl (v_load rfl rfl Try.underlying77 rfl sz77 (cx.row 0 rfl) rfl) ?_
      refine s_bsl1 cx Try.underlying31 sz77 z77 rfl rfl rfl rfl rfl rfl rfl rfl ?_; intro b20 w cx hb20 hw20
      refine s_appendG (m := 1) cx ei77 Try.underlying31 rfl rfl rfl rfl rfl (cx.row 0 rfl) rfl (by exact hrv.one) (by omega) ?_; intro v21 w cx hgr21 hnw21
      replace cx := cx.drop 1
      refine s_val rfl rfl (v_assign rfl rfl) ?_
      refine wpList_nil ?_
      refine wp_region_lit ?_
      refine s_val rfl rfl (v_add rfl hs10 rfl (by omega) (by omega)) ?_
      refine s_val rfl rfl (v_move rfl rfl) ?_
      refine wpList_nil ?_
      first
      | (refine ⟨gk3 - 1, _, by omega, rfl, i + 1, m + 1, v21, rs ++ [.string fs[i].1 :: vrow fs[i].2.sc ebs els efs], by omega, by rw [hdt, hm]; simp, hs1, hs8, hs9, rfl, rfl, by simpa using cx.drop 1, ?_⟩
         rw [hdt]
         exact RowsF.snoc _ _ hrows hrv)
      | (refine ⟨gk3 - 1, _, by omega, rfl, i + 1, m, x, rs, by omega, by rw [hdt, hm], hs1, hs8, hs9, rfl, hs5, by simpa using cx.drop 1, ?_⟩
         rw [hdt]
         exact hrows)
    · skip
      try simp only [Bool.and_eq_true, Bool.or_eq_true, Bool.and_eq_false_iff, Bool.or_eq_false_iff, Bool.not_eq_true', Bool.not_eq_false', decide_eq_true_eq, decide_eq_false_iff_not, beq_iff_eq, beq_eq_false_iff_ne, bne_iff_ne, bne_eq_false_iff_eq, ne_eq, Classical.not_not] at hc17
      have hdt : dropF key (fs.take (i + 1)) = dropF key (fs.take i) := by
        rw [List.take_succ_eq_append_getElem (by omega), dropF_eq hc17]
      refine wp_skip ?_
      refine wp_region_lit ?_
      refine s_val rfl rfl (v_add rfl hs10 rfl (by omega) (by omega)) ?_
      refine s_val rfl rfl (v_move rfl rfl) ?_
      refine wpList_nil ?_
      first
      | (refine ⟨gk3 - 1, _, by omega, rfl, i + 1, m + 1, v21, rs ++ [.string fs[i].1 :: vrow fs[i].2.sc ebs els efs], by omega, by rw [hdt, hm]; simp, hs1, hs8, hs9, rfl, rfl, by simpa using cx.drop 1, ?_⟩
         rw [hdt]
         exact RowsF.snoc _ _ hrows hrv)
      | (refine ⟨gk3 - 1, _, by omega, rfl, i + 1, m, x, rs, by omega, by rw [hdt, hm], hs1, hs8, hs9, rfl, hs5, by simpa using cx.drop 1, ?_⟩
         rw [hdt]
         exact hrows)
  · skip
    try simp only [Bool.and_eq_true, Bool.or_eq_true, Bool.and_eq_false_iff, Bool.or_eq_false_iff, Bool.not_eq_true', Bool.not_eq_false', decide_eq_true_eq, decide_eq_false_iff_not, beq_iff_eq, beq_eq_false_iff_ne, bne_iff_ne, bne_eq_false_iff_eq, ne_eq, Classical.not_not] at hc11
    refine wp_exit ?_
    refine wp_seq ?_
    refine wp_region_lit ?_
    refine s_val rfl rfl (v_move rfl hs5) ?_
    refine s_val rfl rfl (v_assign rfl rfl) ?_
    refine wpList_nil ?_
    refine wp_ret ?_
    refine ret_tmp Try.results77 rfl ?_
    refine ⟨cx.ext, ?_⟩
    have hi : i = fs.length := by omega
    subst hi
    rw [List.take_of_length_le (Nat.le_refl _)] at hm hrows
    subst hm
    exact ⟨rs, cx.head, RowsF.mono (fun _ h => h) (fun b hb => cx.ext.block b (hA b hb)) _ _ hrows⟩
end Go.Proofs.Ytmkihcdcgkdilaa
