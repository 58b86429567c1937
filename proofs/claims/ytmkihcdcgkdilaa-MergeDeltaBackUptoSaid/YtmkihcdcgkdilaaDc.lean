/-
  Contract: Delta of the reference.
-/
import Derived.Test.YtmkihcdcgkdilaaDb
import Derived.Test.YtmkihcdcgkdilaaCh
namespace Go.Proofs.Ytmkihcdcgkdilaa
open Go Go.Dk Go.RowKit
set_option linter.unusedSimpArgs false
set_option linter.unusedVariables false
attribute [local irreducible] Go.wpList Go.Code.wp Go.bodyPost Go.wpStill Go.wpQuiet
set_option maxRecDepth 10000 in
set_option maxHeartbeats 6400000 in
theorem c33 (E : V → V → Bool) (hE : ∀ x y, E x y = true ↔ canon x = canon y) : ∀ (d : Nat) (a b : V) (ra rb : List Value) (A : Nat → Prop) (w0 : World), okd d b → Own1 a → Fine a → Fine b → (∀ v ∈ a.fields.map (·.2), ∃ e, okd e v) → (∀ b, A b → b < w0.heap.size) → RepV A w0 a ra → RepV A w0 b rb → Fc Try.prog 33 [.agg ra.toArray, .agg rb.toArray] w0 (fun y w' => ∃ l : List Value, y = .tuple #[.agg l.toArray, .bool (dl E d a b).isSome] ∧ RepV (fun b => A b ∨ Fr w0 w' b) w' ((dl E d a b).getD nulV) l) := by
  intro d
  induction d with
  | zero => intro a b ra rb A w0 hob; exact hob.elim
  | succ d ih =>
  intro a b ra rb A w0 hob hown hfa1 hfb hka hA hva hvb
  obtain ⟨abs, als, afs, rfl, _, _, hpf⟩ := id (RepV.open hva)
  obtain ⟨cbs, cls, cfs, rfl, _, _, hcf⟩ := id (RepV.open hvb)
  obtain ⟨fb, fo, hfsl, hfreps⟩ := id hpf
  obtain ⟨fa, fc, rfl, hfa⟩ := hfsl.form
  have hfget := fun i kv h => RepFs.get a.fields fo i kv hfreps h
  obtain ⟨gb, go, hgsl, hgreps⟩ := id hcf
  obtain ⟨ga, gc, rfl, hga⟩ := hgsl.form
  have hgget := fun i kv h => RepFs.get b.fields go i kv hgreps h
  have hal : a.fields.length ≤ 1048576 := hfa1.self.2.2.2.2
  have hbl : b.fields.length ≤ 1048576 := hfb.self.2.2.2.2
  refine ret_enter Try.func33 rfl Try.ntmps33 rfl ?_
  have cx := Ctx.start w0
  refine wp_seq ?_
  refine wp_region_lit ?_
  refine s_box cx rfl rfl rfl rfl rfl ?_; intro b2 w cx hb2 hw2
  refine s_box cx rfl rfl rfl rfl rfl ?_; intro b3 w cx hb3 hw3
  refine s_alloc cx z33 rfl rfl rfl ?_; intro b4 w cx hb4 hw4
  refine s_val rfl rfl (v_assign rfl rfl) ?_
  refine wpList_nil ?_
  refine wp_seq ?_
  refine wp_seq ?_
  refine wp_region_lit ?_
  refine s_val rfl rfl (v_fa fa33_0 rfl rfl) ?_
  refine s_val rfl rfl (v_load1 rfl rfl Try.underlying3 rfl (cx.cell 1 rfl rfl)) ?_
  refine s_val rfl rfl (v_cmp rfl rfl rfl rfl) ?_
  refine wpList_nil ?_
  refine c_split rfl (fun hc16 => ?_) (fun hc16 => ?_)
  · skip
    try simp only [Bool.and_eq_true, Bool.or_eq_true, Bool.and_eq_false_iff, Bool.or_eq_false_iff, Bool.not_eq_true', Bool.not_eq_false', decide_eq_true_eq, decide_eq_false_iff_not, beq_iff_eq, beq_eq_false_iff_ne, bne_iff_ne, bne_eq_false_iff_eq, ne_eq, Classical.not_not] at hc16
    refine wp_seq ?_
    refine wp_region_lit ?_
    refine s_val rfl rfl (v_load rfl rfl Try.underlying33 rfl sz33 (cx.row 1 rfl) rfl) ?_
    refine s_storeAllG cx 0 rfl rfl rfl rfl rfl rfl sz33 rfl hvb.one ?_; intro w cx hg4
    refine s_val rfl rfl (v_assign rfl rfl) ?_
    refine wpList_nil ?_
    refine wp_ret ?_
    refine ret_cell2 (l := vrow b.sc cbs cls (.slice ga b.fields.length gc)) Try.results33 rfl rfl (cx.at 0 rfl) Try.underlying33 rfl sz33 ⟨cx.ext, vrow b.sc cbs cls (.slice ga b.fields.length gc), ?_⟩
    rw [dl_else hc16]
    exact ⟨rfl, RepV.mono (fun b hb => .inl hb) (fun b hb => cx.ext.block b (hA b hb)) _ _ hvb⟩
  · skip
    try simp only [Bool.and_eq_true, Bool.or_eq_true, Bool.and_eq_false_iff, Bool.or_eq_false_iff, Bool.not_eq_true', Bool.not_eq_false', decide_eq_true_eq, decide_eq_false_iff_not, beq_iff_eq, beq_eq_false_iff_ne, bne_iff_ne, bne_eq_false_iff_eq, ne_eq, Classical.not_not] at hc16
    have h7 : b.sc.kind = 7 := hc16
    refine wp_skip ?_
    refine wp_seq ?_
    refine wp_region_lit ?_
    refine s_val rfl rfl (v_build bd33m rfl rfl) ?_
    refine s_alloc cx z33 rfl rfl rfl ?_; intro b6 w cx hb6 hw6
    refine s_storeAllG cx 0 rfl rfl rfl rfl rfl rfl sz33 rfl rfl ?_; intro w cx hg6
    refine wpList_nil ?_
    refine wp_seq ?_
    refine wp_seq ?_
    refine wp_region_lit ?_
    replace cx := cx.nilRow 77 14
    refine s_val rfl rfl (v_assign rfl rfl) ?_
    refine wpList_nil ?_
    refine wp_block ?_
    refine w_loop (fun k f w1 => ∃ (i : Nat) (l : Fs) (x : Value) (rs : Els), k + i = a.fields.length ∧ f 2 = .pointer (some ⟨b2, 0, none⟩) ∧ f 3 = .pointer (some ⟨b3, 0, none⟩) ∧ f 4 = .pointer (some ⟨b4, 0, none⟩) ∧ f 6 = .pointer (some ⟨b6, 0, none⟩) ∧ f 7 = .int .i64 i ∧ l = dlG (a.fields.take i) b.fields ∧ Cxr w0 w1 [(b6, .cells (vrow (zk 7) (.slice none 0 0) (.slice none 0 0) x).toArray 33), (b4, .cells ([.int .i64 0, .bool false, .bool false, .string ByteArray.empty, .int .i64 0, .int .i64 0, .int .i64 0, .int .i64 0, .int .i64 0, .string ByteArray.empty, .slice none 0 0, .slice none 0 0, .slice none 0 0] : List Value).toArray 33), (b3, .cells (vrow b.sc cbs cls (.slice ga b.fields.length gc)).toArray 33), (b2, .cells (vrow a.sc abs als (.slice fa a.fields.length fc)).toArray 33)] [⟨77, 14, x, l.length, rs.flatten⟩] ∧ RowsF (Da A w0 w1 [b2, b3, b4, b6] x) w1 l rs) (a.fields.length) ?_ ?_
    · skip
      exact ⟨0, [], _, [], by omega, rfl, rfl, rfl, rfl, rfl, rfl, cx, trivial⟩
    intro gk5 f w hJ
    obtain ⟨i, l, x, rs, hki, hs2, hs3, hs4, hs6, hs7, hl, cx, hrows⟩ := hJ
    refine wp_seq ?_
    refine wp_seq ?_
    refine wp_region_lit ?_
    refine s_val rfl rfl (v_move rfl hs7) ?_
    refine s_val rfl rfl (v_fa fa33_7 rfl hs2) ?_
    refine s_val rfl rfl (v_load1 rfl rfl Try.underlying31 rfl (cx.cell 3 rfl rfl)) ?_
    refine s_val rfl rfl (v_lenSlice rfl rfl Try.underlying31) ?_
    refine s_val rfl rfl (v_cmp rfl rfl rfl rfl) ?_
    refine wpList_nil ?_
    refine c_split rfl (fun hc23 => ?_) (fun hc23 => ?_)
    · skip
      try simp only [Bool.and_eq_true, Bool.or_eq_true, Bool.and_eq_false_iff, Bool.or_eq_false_iff, Bool.not_eq_true', Bool.not_eq_false', decide_eq_true_eq, decide_eq_false_iff_not, beq_iff_eq, beq_eq_false_iff_ne, bne_iff_ne, bne_eq_false_iff_eq, ne_eq, Classical.not_not] at hc23
      obtain rfl := hfa (by omega)
      obtain ⟨r, hr, hrv⟩ := hfget i a.fields[i] (List.getElem?_eq_getElem (by omega))
      obtain ⟨ebs, els, efs, rfl, _⟩ := hrv.open
      have hK := Kp.da hA cx.ext.size [b2, b3, b4, b6] x
      have hll := dlG_length (a.fields.take i) b.fields
      rw [← hl, List.length_take] at hll
      refine wp_skip ?_
      refine wp_seq ?_
      refine wp_block ?_
      refine wp_seq ?_
      refine w_ord cx (cx.pick2 3 2 rfl rfl rfl) mixed [(0, 26), (1, 27), (2, 28), (3, 29), (4, 30), (5, 31), (6, 32), (7, 33)] #[true, true, true, true, true, true, true, true, false, false] (by kernel_rfl) (by kernel_rfl) (by kernel_rfl) (by kernel_rfl) ?_
      refine pu_one rfl (wnt_none rfl) (fun w cx => v_fa fa33_7 rfl hs3) ?_
      refine pu_one rfl (wnt_none rfl) (fun w cx => v_load1 rfl rfl Try.underlying31 rfl (cx.cell 1 rfl rfl)) ?_
      refine pu_one rfl (wnt_none rfl) (fun w cx => v_fa fa33_7 rfl hs2) ?_
      refine pu_one rfl (wnt_none rfl) (fun w cx => v_load1 rfl rfl Try.underlying31 rfl (cx.cell 0 rfl rfl)) ?_
      refine pu_one rfl (wnt_none rfl) (fun w cx => v_move rfl hs7) ?_
      refine pu_one rfl (wnt_none rfl) (fun w cx => v_ia Try.underlying31 sz77 rfl rfl rfl (by omega) (by omega)) ?_
      refine pu_one rfl (wnt_none rfl) (fun w cx => v_fa fa77_0 rfl rfl) ?_
      refine pu_one rfl (wnt_none rfl) (fun w cx => v_load1 rfl rfl Try.underlying9 rfl ((hr.up cx.ext).cell 0 rfl)) ?_
      refine pu_nil ?_; intro w cx hwD7
      replace hK := hK.below hwD7
      refine x_one (i := 8) (by kernel_rfl) rfl ?_
      refine s_fnI cx (c51 b.fields _ a.fields[i].1 _ (RepF.mono (fun b hb => Nat.lt_of_lt_of_le (hA b hb) cx.ext.size) (fun b hb => cx.ext.block b (hA b hb)) hcf) hbl) Try.func51 rfl rfl rfl rfl rfl rfl ?_; intro q34 w cx hw34 hp34
      replace hK := hK.below hw34
      refine x_next ⟨.inr (by kernel_rfl), ?_⟩
      refine x_one (i := 9) (by kernel_rfl) rfl ?_
      refine s_val rfl rfl (v_cmp rfl rfl rfl rfl) ?_
      refine x_next ⟨.inr (by kernel_rfl), ?_⟩
      refine x_done (by kernel_rfl) ?_
      refine c_split rfl (fun hc35 => ?_) (fun hc35 => ?_)
      · skip
        try simp only [Bool.and_eq_true, Bool.or_eq_true, Bool.and_eq_false_iff, Bool.or_eq_false_iff, Bool.not_eq_true', Bool.not_eq_false', decide_eq_true_eq, decide_eq_false_iff_not, beq_iff_eq, beq_eq_false_iff_ne, bne_iff_ne, bne_eq_false_iff_eq, ne_eq, Classical.not_not] at hc35
        rcases hp34 with ⟨j, hj, rfl, _⟩ | ⟨_, hno⟩
        · omega
        have hnone := hasF_none hno
        have hdt : dlG (a.fields.take (i + 1)) b.fields = l ++ [(a.fields[i].1, nulV)] := by rw [dlG_take (by omega), hnone, ← hl]; rfl
        refine w_ord cx (cx.pick2 0 3 rfl rfl rfl) mixed [(0, 36), (1, 37), (2, 38), (3, 39), (4, 40), (5, 41), (6, 42), (7, 43), (8, 44)] #[true, true, true, true, true, true, true, true, true, false, false, false, false] (by kernel_rfl) (by kernel_rfl) (by kernel_rfl) (by kernel_rfl) ?_
        refine pu_one rfl (wnt_none rfl) (fun w cx => v_fa fa33_7 rfl hs6) ?_
        refine pu_one rfl (wnt_none rfl) (fun w cx => v_load1 rfl rfl Try.underlying31 rfl (cx.cell 0 rfl rfl)) ?_
        refine pu_one rfl (wnt_none rfl) (fun w cx => v_fa fa33_7 rfl hs2) ?_
        refine pu_one rfl (wnt_none rfl) (fun w cx => v_load1 rfl rfl Try.underlying31 rfl (cx.cell 1 rfl rfl)) ?_
        refine pu_one rfl (wnt_none rfl) (fun w cx => v_move rfl hs7) ?_
        refine pu_one rfl (wnt_none rfl) (fun w cx => v_ia Try.underlying31 sz77 rfl rfl rfl (by omega) (by omega)) ?_
        refine pu_one rfl (wnt_none rfl) (fun w cx => v_fa fa77_0 rfl rfl) ?_
        refine pu_one rfl (wnt_none rfl) (fun w cx => v_load1 rfl rfl Try.underlying9 rfl ((hr.up cx.ext).cell 0 rfl)) ?_
        refine pu_one rfl (wnt_none rfl) (fun w cx => v_build (bd77k _) rfl rfl) ?_
        refine pu_nil ?_; intro w cx hwD8
        replace hK := hK.below hwD8
        refine x_one (i := 9) (by kernel_rfl) rfl ?_
        have cxl := cx
        refine s_bsl1 cx Try.underlying31 sz77 z77 rfl rfl rfl rfl rfl rfl rfl rfl ?_; intro b45 w cx hb45 hw45
        replace hK := hK.below hw45
        have hm0 := hK.sz
        refine x_next ⟨.inl (cx.pick2 1 4 rfl rfl rfl), ?_⟩
        refine x_one (i := 10) (by kernel_rfl) rfl ?_
        refine s_appendG (m := 1) cx ei77 Try.underlying31 rfl rfl rfl rfl rfl (cx.row 0 rfl) rfl rfl (by omega) ?_; intro v46 w cx hgr46 hnw46
        replace hK := hK.daOwn hA hgr46 rfl (fun q hq => (Made_lt cxl.head q hq).1)
        refine x_next ⟨.inr (by kernel_rfl), ?_⟩
        refine x_one (i := 11) (by kernel_rfl) rfl ?_
        refine s_val rfl rfl (v_fa fa33_7 rfl hs6) ?_
        refine x_next ⟨.inr (by kernel_rfl), ?_⟩
        refine x_one (i := 12) (by kernel_rfl) rfl ?_
        refine s_store1G (v := v46) cx 1 rfl rfl rfl rfl rfl (own_one cx.head) rfl rfl rfl ?_; intro w cx hg6
        replace hK := hK.daId hA hg6 (by simp) (cx.lts b6 (by simp)).1
        refine x_next ⟨.inr (by kernel_rfl), ?_⟩
        refine x_done (by kernel_rfl) ?_
        refine wp_region_lit ?_
        refine s_val rfl rfl (v_move rfl hs7) ?_
        refine s_val rfl rfl (v_add rfl rfl rfl (by omega) (by omega)) ?_
        refine s_val rfl rfl (v_assign rfl rfl) ?_
        refine wpList_nil ?_
        refine ⟨gk5 - 1, _, by omega, rfl, i + 1, l ++ [(a.fields[i].1, nulV)], v46, rs ++ [.string a.fields[i].1 :: vrow (zk 0) (.slice none 0 0) (.slice none 0 0) (.slice none 0 0)], by omega, hs2, hs3, hs4, hs6, rfl, hdt.symm, ?_, ?_⟩
        · rw [List.length_append]
          simpa [vrow, mapV, zk] using cx.drop 1
        · exact RowsF.snoc _ _ (RowsF.mono (Da.step hK.sz hm0 hnw46) hK.kp _ _ hrows) rep_nul
      · skip
        try simp only [Bool.and_eq_true, Bool.or_eq_true, Bool.and_eq_false_iff, Bool.or_eq_false_iff, Bool.not_eq_true', Bool.not_eq_false', decide_eq_true_eq, decide_eq_false_iff_not, beq_iff_eq, beq_eq_false_iff_ne, bne_iff_ne, bne_eq_false_iff_eq, ne_eq, Classical.not_not] at hc35
        rcases hp34 with ⟨j, hj, rfl, hje, hjn⟩ | ⟨rfl, _⟩
        rotate_left
        · omega
        have hsome := hasF_take hjn hj hje
        have hdt : dlG (a.fields.take (i + 1)) b.fields = l := by rw [dlG_take (by omega), hsome, ← hl]; rfl
        refine wp_skip ?_
        refine wp_region_lit ?_
        refine s_val rfl rfl (v_move rfl hs7) ?_
        refine s_val rfl rfl (v_add rfl rfl rfl (by omega) (by omega)) ?_
        refine s_val rfl rfl (v_assign rfl rfl) ?_
        refine wpList_nil ?_
        exact ⟨gk5 - 1, _, by omega, rfl, i + 1, l, x, rs, by omega, hs2, hs3, hs4, hs6, rfl, hdt.symm, cx, RowsF.mono (Da.step hK.sz (Nat.le_refl _) (fun q hq => .inl hq)) hK.kp _ _ hrows⟩
    · skip
      try simp only [Bool.and_eq_true, Bool.or_eq_true, Bool.and_eq_false_iff, Bool.or_eq_false_iff, Bool.not_eq_true', Bool.not_eq_false', decide_eq_true_eq, decide_eq_false_iff_not, beq_iff_eq, beq_eq_false_iff_ne, bne_iff_ne, bne_eq_false_iff_eq, ne_eq, Classical.not_not] at hc23
      refine wp_exit ?_
      refine wp_seq ?_
      refine wp_seq ?_
      refine wp_region_lit ?_
      refine s_val rfl rfl (v_assign rfl rfl) ?_
      refine wpList_nil ?_
      refine wp_block ?_
      refine w_loop (fun k f w1 => ∃ (i : Nat) (l : Fs) (x : Value) (rs : Els), k + i = b.fields.length ∧ f 2 = .pointer (some ⟨b2, 0, none⟩) ∧ f 3 = .pointer (some ⟨b3, 0, none⟩) ∧ f 4 = .pointer (some ⟨b4, 0, none⟩) ∧ f 6 = .pointer (some ⟨b6, 0, none⟩) ∧ f 8 = .int .i64 i ∧ (b.fields.take i).foldl (dlStep E (dl E d) a.fields) (some (dlG a.fields b.fields)) = some l ∧ Cxr w0 w1 [(b6, .cells (vrow (zk 7) (.slice none 0 0) (.slice none 0 0) x).toArray 33), (b4, .cells ([.int .i64 0, .bool false, .bool false, .string ByteArray.empty, .int .i64 0, .int .i64 0, .int .i64 0, .int .i64 0, .int .i64 0, .string ByteArray.empty, .slice none 0 0, .slice none 0 0, .slice none 0 0] : List Value).toArray 33), (b3, .cells (vrow b.sc cbs cls (.slice ga b.fields.length gc)).toArray 33), (b2, .cells (vrow a.sc abs als (.slice fa a.fields.length fc)).toArray 33)] [⟨77, 14, x, l.length, rs.flatten⟩] ∧ RowsF (Da A w0 w1 [b2, b3, b4, b6] x) w1 l rs) (b.fields.length) ?_ ?_
      · skip
        refine ⟨0, l, x, rs, by omega, hs2, hs3, hs4, hs6, rfl, ?_, cx, hrows⟩
        have hi : i = a.fields.length := by omega
        rw [hl, hi, List.take_of_length_le (Nat.le_refl _)]; rfl
      intro gk10 f w hJ
      obtain ⟨i, l, x, rs, hki, hs2, hs3, hs4, hs6, hs8, hl, cx, hrows⟩ := hJ
      refine wp_seq ?_
      refine wp_seq ?_
      refine wp_region_lit ?_
      refine s_val rfl rfl (v_move rfl hs8) ?_
      refine s_val rfl rfl (v_fa fa33_7 rfl hs3) ?_
      refine s_val rfl rfl (v_load1 rfl rfl Try.underlying31 rfl (cx.cell 2 rfl rfl)) ?_
      refine s_val rfl rfl (v_lenSlice rfl rfl Try.underlying31) ?_
      refine s_val rfl rfl (v_cmp rfl rfl rfl rfl) ?_
      refine wpList_nil ?_
      refine c_split rfl (fun hc52 => ?_) (fun hc52 => ?_)
      · skip
        try simp only [Bool.and_eq_true, Bool.or_eq_true, Bool.and_eq_false_iff, Bool.or_eq_false_iff, Bool.not_eq_true', Bool.not_eq_false', decide_eq_true_eq, decide_eq_false_iff_not, beq_iff_eq, beq_eq_false_iff_ne, bne_iff_ne, bne_eq_false_iff_eq, ne_eq, Classical.not_not] at hc52
        obtain rfl := hga (by omega)
        obtain ⟨r, hr, hrv⟩ := hgget i b.fields[i] (List.getElem?_eq_getElem (by omega))
        obtain ⟨ebs, els, efs, rfl, _⟩ := hrv.open
        have hK := Kp.da hA cx.ext.size [b2, b3, b4, b6] x
        have hll := dlStep_length _ _ _ hl
        have hll2 := dlG_length a.fields b.fields
        rw [List.length_take] at hll
        have hlb : (l.length + 1) * 184 ≤ 140737488355328 := by omega
        have hkm : b.fields[i] ∈ b.fields := List.getElem_mem _
        refine wp_skip ?_
        refine wp_seq ?_
        refine wp_block ?_
        refine wp_seq ?_
        refine wp_region_lit ?_
        refine s_val rfl rfl (v_fa fa33_7 rfl hs3) ?_
        refine s_val rfl rfl (v_load1 rfl rfl Try.underlying31 rfl (cx.cell 2 rfl rfl)) ?_
        refine s_val rfl rfl (v_move rfl hs8) ?_
        refine s_val rfl rfl (v_ia Try.underlying31 sz77 rfl rfl rfl (by omega) (by omega)) ?_
        refine s_val rfl rfl (v_load rfl rfl Try.underlying77 rfl sz77 (hr.up cx.ext) rfl) ?_
        refine s_alloc cx z77 rfl rfl rfl ?_; intro b9 w cx hb9 hw9
        have hl9 := Nat.le_trans hK.sz (Nat.le_of_eq hb9)
        replace hK := hK.below hw9
        refine s_storeAllG cx 0 rfl rfl rfl rfl rfl rfl sz77 rfl (by exact hrv.one) ?_; intro w cx hg9
        replace hK := hK.later hg9 hl9
        refine wpList_nil ?_
        refine wp_seq ?_
        refine wp_region_lit ?_
        refine s_val rfl rfl (v_fa fa33_7 rfl hs2) ?_
        refine s_val rfl rfl (v_load1 rfl rfl Try.underlying31 rfl (cx.cell 4 rfl rfl)) ?_
        refine s_val rfl rfl (v_fa fa77_0 rfl rfl) ?_
        refine s_val rfl rfl (v_load1 rfl rfl Try.underlying9 rfl (cx.cell 0 rfl rfl)) ?_
        refine s_fnI cx (c51 a.fields _ b.fields[i].1 _ (RepF.mono (fun b hb => Nat.lt_of_lt_of_le (hA b hb) cx.ext.size) (fun b hb => cx.ext.block b (hA b hb)) hpf) hal) Try.func51 rfl rfl rfl rfl rfl rfl ?_; intro q64 w cx hw64 hp64
        replace hK := hK.below hw64
        have hmi : decide (0 ≤ q64) = (hasF b.fields[i].1 a.fields).isSome := by
          rcases hp64 with ⟨j, hj, rfl, hje, hjn⟩ | ⟨rfl, hno⟩
          · rw [hasF_take hjn hj hje]; exact decide_eq_true (by omega)
          · rw [hasF_none hno]; rfl
        have hov : (∃ e, okd e ((hasF b.fields[i].1 a.fields).getD nulV)) ∧ Fine ((hasF b.fields[i].1 a.fields).getD nulV) := by
          cases hh : hasF b.fields[i].1 a.fields with
          | none => exact ⟨⟨1, okd_nul⟩, fine_nul⟩
          | some u =>
            have hm := hasF_mem hh
            exact ⟨hka u (List.mem_map.2 ⟨_, hm, rfl⟩), (hfa1.field hm).2⟩
        have hovs : Own1 ((hasF b.fields[i].1 a.fields).getD nulV) ∧ ∀ v ∈ ((hasF b.fields[i].1 a.fields).getD nulV).fields.map (·.2), ∃ e, okd e v := by
          obtain ⟨⟨e, he⟩, _⟩ := hov
          cases e with
          | zero => exact he.elim
          | succ e =>
            refine ⟨he.1, fun v hv => ?_⟩
            obtain ⟨kv, hk, rfl⟩ := List.mem_map.1 hv
            exact ⟨e, he.2.2.2 kv hk⟩
        refine s_val rfl rfl (v_assign rfl rfl) ?_
        refine wpList_nil ?_
        refine wp_seq ?_
        refine wp_region_lit ?_
        refine s_val rfl rfl (v_build bd33 rfl rfl) ?_
        refine s_alloc cx z33 rfl rfl rfl ?_; intro b11 w cx hb11 hw11
        have hl11 := Nat.le_trans hK.sz (Nat.le_of_eq hb11)
        replace hK := hK.below hw11
        refine s_storeAllG cx 0 rfl rfl rfl rfl rfl rfl sz33 rfl rfl ?_; intro w cx hg11
        replace hK := hK.later hg11 hl11
        refine wpList_nil ?_
        refine w_cut (fun f w1 => ∃ rw11 : List Value, f 2 = .pointer (some ⟨b2, 0, none⟩) ∧ f 3 = .pointer (some ⟨b3, 0, none⟩) ∧ f 4 = .pointer (some ⟨b4, 0, none⟩) ∧ f 6 = .pointer (some ⟨b6, 0, none⟩) ∧ f 8 = .int .i64 i ∧ f 9 = .pointer (some ⟨b9, 0, none⟩) ∧ f 10 = .int .i64 q64 ∧ f 11 = .pointer (some ⟨b11, 0, none⟩) ∧ RepV A w0 ((hasF b.fields[i].1 a.fields).getD nulV) rw11 ∧ Cxr w0 w1 ((b11, .cells rw11.toArray 33) :: (b9, .cells (.string b.fields[i].1 :: vrow b.fields[i].2.sc ebs els efs).toArray 77) :: [(b6, .cells (vrow (zk 7) (.slice none 0 0) (.slice none 0 0) x).toArray 33), (b4, .cells ([.int .i64 0, .bool false, .bool false, .string ByteArray.empty, .int .i64 0, .int .i64 0, .int .i64 0, .int .i64 0, .int .i64 0, .string ByteArray.empty, .slice none 0 0, .slice none 0 0, .slice none 0 0] : List Value).toArray 33), (b3, .cells (vrow b.sc cbs cls (.slice (some ⟨gb, go, none⟩) b.fields.length gc)).toArray 33), (b2, .cells (vrow a.sc abs als (.slice fa a.fields.length fc)).toArray 33)]) [⟨77, 14, x, l.length, rs.flatten⟩] ∧ RowsF (Da A w0 w1 [b2, b3, b4, b6] x) w1 l rs) ?_ ?_
        · skip
          refine wp_seq ?_
          refine wp_region_lit ?_
          refine s_val rfl rfl (v_move rfl rfl) ?_
          refine s_val rfl rfl (v_cmp rfl rfl rfl rfl) ?_
          refine wpList_nil ?_
          refine c_split rfl (fun hc67 => ?_) (fun hc67 => ?_)
          · skip
            try simp only [Bool.and_eq_true, Bool.or_eq_true, Bool.and_eq_false_iff, Bool.or_eq_false_iff, Bool.not_eq_true', Bool.not_eq_false', decide_eq_true_eq, decide_eq_false_iff_not, beq_iff_eq, beq_eq_false_iff_ne, bne_iff_ne, bne_eq_false_iff_eq, ne_eq, Classical.not_not] at hc67
            rcases hp64 with ⟨j, hj, rfl, hje, hjn⟩ | ⟨rfl, _⟩
            rotate_left
            · omega
            have hsome := hasF_take hjn hj hje
            obtain rfl := hfa (by omega)
            obtain ⟨r11, hr11, hrv11⟩ := hfget j a.fields[j] (List.getElem?_eq_getElem hj)
            refine wp_region_lit ?_
            refine s_val rfl rfl (v_fa fa33_7 rfl hs2) ?_
            refine s_val rfl rfl (v_load1 rfl rfl Try.underlying31 rfl (cx.cell 5 rfl rfl)) ?_
            refine s_val rfl rfl (v_move rfl rfl) ?_
            refine s_val rfl rfl (v_ia Try.underlying31 sz77 rfl rfl rfl (by omega) (by omega)) ?_
            refine s_val rfl rfl (v_fa fa77_1 rfl rfl) ?_
            refine s_val rfl rfl (v_load rfl rfl Try.underlying33 rfl sz33 ((hr11.up cx.ext).tail) hrv11.len) ?_
            refine s_storeAllG cx 0 rfl rfl rfl rfl rfl rfl (by rw [hrv11.len]; exact sz33) (by rw [hrv11.len]; rfl) hrv11.one ?_; intro w cx hg11b
            replace hK := hK.later hg11b hl11
            refine wpList_nil ?_
            first
            | exact ⟨_, rfl, r11, hs2, hs3, hs4, hs6, hs8, rfl, rfl, rfl, by rw [hsome]; exact hrv11, cx, RowsF.mono (Da.step hK.sz (Nat.le_refl _) (fun q hq => .inl hq)) hK.kp _ _ hrows⟩
            | exact ⟨_, rfl, _, hs2, hs3, hs4, hs6, hs8, rfl, rfl, rfl, by rw [hnone]; exact rep_nul, cx, RowsF.mono (Da.step hK.sz (Nat.le_refl _) (fun q hq => .inl hq)) hK.kp _ _ hrows⟩
          · skip
            try simp only [Bool.and_eq_true, Bool.or_eq_true, Bool.and_eq_false_iff, Bool.or_eq_false_iff, Bool.not_eq_true', Bool.not_eq_false', decide_eq_true_eq, decide_eq_false_iff_not, beq_iff_eq, beq_eq_false_iff_ne, bne_iff_ne, bne_eq_false_iff_eq, ne_eq, Classical.not_not] at hc67
            rcases hp64 with ⟨j, hj, rfl, _⟩ | ⟨rfl, hno⟩
            · omega
            have hnone := hasF_none hno
            refine wp_skip ?_
            first
            | exact ⟨_, rfl, r11, hs2, hs3, hs4, hs6, hs8, rfl, rfl, rfl, by rw [hsome]; exact hrv11, cx, RowsF.mono (Da.step hK.sz (Nat.le_refl _) (fun q hq => .inl hq)) hK.kp _ _ hrows⟩
            | exact ⟨_, rfl, _, hs2, hs3, hs4, hs6, hs8, rfl, rfl, rfl, by rw [hnone]; exact rep_nul, cx, RowsF.mono (Da.step hK.sz (Nat.le_refl _) (fun q hq => .inl hq)) hK.kp _ _ hrows⟩
        intro f w hJ
        obtain ⟨rw11, hs2, hs3, hs4, hs6, hs8, hs9, hs10, hs11, hvw, cx, hrows⟩ := hJ
        have hK := Kp.da hA cx.ext.size [b2, b3, b4, b6] x
        obtain ⟨wk, rfl⟩ : ∃ y, y = w := ⟨_, rfl⟩
        have hk0 := cx.ext.size
        refine wp_seq ?_
        refine wp_seq ?_
        refine wp_region_lit ?_
        refine s_val rfl rfl (v_move rfl hs10) ?_
        refine s_val rfl rfl (v_cmp rfl rfl rfl rfl) ?_
        refine s_val rfl rfl (v_move rfl rfl) ?_
        refine s_gval rfl rfl rfl (by first | exact w_tt rfl | exact w_gt rfl) (fun hc => v_load rfl hs11 Try.underlying33 rfl sz33 (cx.row 0 rfl) hvw.len) ?_
        refine s_gval rfl rfl rfl (by first | exact w_tt rfl | exact w_gt rfl) (fun hc => v_fa fa77_1 rfl hs9) ?_
        refine s_gval rfl rfl rfl (by first | exact w_tt rfl | exact w_gt rfl) (fun hc => v_load rfl (gve hc rfl) Try.underlying33 rfl sz33 ((cx.row 1 rfl).tail) rfl) ?_
        refine s_gfnB cx rfl rfl rfl (by first | exact w_tt rfl | exact w_gt rfl) (fun hc => c27 _ _ _ _ _ hov.2 (hfb.field hkm).2 (RepV.mono (fun b hb => Nat.lt_of_lt_of_le (hA b hb) cx.ext.size) (fun b hb => cx.ext.block b (hA b hb)) _ _ hvw) (RepV.mono (fun b hb => Nat.lt_of_lt_of_le (hA b hb) cx.ext.size) (fun b hb => cx.ext.block b (hA b hb)) _ _ hrv)) Try.func27 rfl rfl rfl (fun hc => cons_eq (gve hc rfl) (cons_eq (gve hc rfl) rfl)) ?_; intro q80 w cx hw80 hp80
        replace hK := hK.below hw80
        refine s_val rfl rfl (v_and rfl rfl rfl rfl) ?_
        refine wpList_nil ?_
        refine c_split rfl (fun hc81 => ?_) (fun hc81 => ?_)
        · skip
          try simp only [Bool.and_eq_true, Bool.or_eq_true, Bool.and_eq_false_iff, Bool.or_eq_false_iff, Bool.not_eq_true', Bool.not_eq_false', decide_eq_true_eq, decide_eq_false_iff_not, beq_iff_eq, beq_eq_false_iff_ne, bne_iff_ne, bne_eq_false_iff_eq, ne_eq, Classical.not_not] at hc81
          have hany : (hasF b.fields[i].1 a.fields).any (fun old => E old b.fields[i].2) = true := by
            rw [any_isSome (z := nulV), ← hmi, decide_eq_true (by omega : 0 ≤ q64), Bool.true_and]
            exact (hE _ _).2 ((hp80 (decide_eq_true (by omega))).1 hc81.2)
          refine wp_exit ?_
          refine wp_region_lit ?_
          refine s_val rfl rfl (v_move rfl hs8) ?_
          refine s_val rfl rfl (v_add rfl rfl rfl (by omega) (by omega)) ?_
          refine s_val rfl rfl (v_assign rfl rfl) ?_
          refine wpList_nil ?_
          refine ⟨gk10 - 1, _, by omega, rfl, i + 1, l, x, rs, by omega, hs2, hs3, hs4, hs6, rfl, ?_, by simpa using cx.drop 2, RowsF.mono (Da.step hK.sz (Nat.le_refl _) (fun q hq => .inl hq)) hK.kp _ _ hrows⟩
          rw [take_foldO (by omega), hl]
          unfold dlStep
          simp only
          rw [if_pos hany]
        · skip
          try simp only [Bool.and_eq_true, Bool.or_eq_true, Bool.and_eq_false_iff, Bool.or_eq_false_iff, Bool.not_eq_true', Bool.not_eq_false', decide_eq_true_eq, decide_eq_false_iff_not, beq_iff_eq, beq_eq_false_iff_ne, bne_iff_ne, bne_eq_false_iff_eq, ne_eq, Classical.not_not] at hc81
          have hany : (hasF b.fields[i].1 a.fields).any (fun old => E old b.fields[i].2) = false := by
            rw [any_isSome (z := nulV), ← hmi]
            rcases hc81 with h | h
            · rw [decide_eq_false (by omega)]; rfl
            · by_cases h0 : 0 ≤ q64
              · have h1 := hp80 (decide_eq_true h0)
                have : ¬ E ((hasF b.fields[i].1 a.fields).getD nulV) b.fields[i].2 = true := fun e => by
                  have := h1.2 ((hE _ _).1 e)
                  rw [h] at this; cases this
                simp [this]
              · rw [decide_eq_false h0]; rfl
          refine wp_skip ?_
          refine wp_seq ?_
          refine wp_region_lit ?_
          refine s_val rfl rfl (v_load rfl hs11 Try.underlying33 rfl sz33 (cx.row 0 rfl) hvw.len) ?_
          refine s_val rfl rfl (v_fa fa77_1 rfl hs9) ?_
          refine s_val rfl rfl (v_load rfl rfl Try.underlying33 rfl sz33 ((cx.row 1 rfl).tail) rfl) ?_
          have cxc := cx
          obtain ⟨wc86, hwc86⟩ : ∃ y, y = w := ⟨_, rfl⟩
          subst hwc86
          refine s_fn cx (ih _ _ _ _ A _ (hob.2.2.2 _ hkm) hovs.1 hov.2 (hfb.field hkm).2 hovs.2 (fun b hb => Nat.lt_of_lt_of_le (hA b hb) cx.ext.size) (RepV.mono (fun _ h => h) (fun b hb => cx.ext.block b (hA b hb)) _ _ hvw) (RepV.mono (fun _ h => h) (fun b hb => cx.ext.block b (hA b hb)) _ _ hrv)) Try.func33 rfl rfl rfl rfl rfl rfl ?_; intro q86 w cx hw86 hp86
          obtain ⟨l86, rfl, hm86⟩ := hp86
          obtain ⟨wd86, hwd86⟩ : ∃ y, y = w := ⟨_, rfl⟩
          subst hwd86
          replace hm86 := RepV.mono (A' := fun b => Da A w0 wk [b2, b3, b4, b6] x b ∨ Fr wc86 wd86 b) (fun b hb => hb.elim (fun h => .inl (.inl h)) .inr) (fun _ _ => rfl) _ _ hm86
          have hKn := Kp.res (ids := [b2, b3, b4, b6]) (v := x) hA hk0 hK.sz hw86
          have hs0 := hK.sz
          have hcc := hw86.size
          replace hK := hK.below hw86
          refine s_val rfl rfl (v_move rfl rfl) ?_
          refine s_val rfl rfl (v_extract rfl rfl rfl) ?_
          refine s_val rfl rfl (v_extract rfl rfl rfl) ?_
          refine s_alloc cx z33 rfl rfl rfl ?_; intro b12 w cx hb12 hw12
          have hl12 := Nat.le_trans hK.sz (Nat.le_of_eq hb12)
          replace hK := hK.below hw12
          replace hKn := hKn.below hw12
          refine s_storeAllG cx 0 rfl rfl rfl rfl rfl rfl (by rw [hm86.len]; exact sz33) (by rw [hm86.len]; rfl) hm86.one ?_; intro w cx hg12
          replace hK := hK.later hg12 hl12
          replace hKn := hKn.later hg12 (Nat.le_of_eq hb12)
          refine s_val rfl rfl (v_assign rfl rfl) ?_
          refine wpList_nil ?_
          refine wp_seq ?_
          refine wp_seq ?_
          refine wp_region_lit ?_
          refine s_val rfl rfl (v_move rfl rfl) ?_
          refine s_val rfl rfl (v_not rfl rfl) ?_
          refine s_val rfl rfl (v_move rfl rfl) ?_
          refine s_gval rfl rfl rfl (by first | exact w_ff rfl | exact w_gf rfl) (fun hc => v_fa fa77_1 rfl hs9) ?_
          refine s_gval rfl rfl rfl (by first | exact w_ff rfl | exact w_gf rfl) (fun hc => v_fa fa33_0 rfl (by first | exact gve hc rfl | exact gve (and_l hc) rfl | exact gve (and_l (and_l hc)) rfl | rfl)) ?_
          refine s_gval rfl rfl rfl (by first | exact w_ff rfl | exact w_gf rfl) (fun hc => v_load1 rfl (gve hc rfl) Try.underlying3 rfl ((cx.row 2 rfl).tail.cell 0 rfl)) ?_
          refine s_gval rfl rfl rfl (by first | exact w_ff rfl | exact w_gf rfl) (fun hc => v_cmp rfl (by first | exact gve hc rfl | exact gve (and_l hc) rfl | exact gve (and_l (and_l hc)) rfl | rfl) rfl rfl) ?_
          refine s_val rfl rfl (v_or rfl rfl rfl rfl) ?_
          refine wpList_nil ?_
          refine c_split rfl (fun hc96 => ?_) (fun hc96 => ?_)
          · skip
            skip
            have hstep : dlStep E (dl E d) a.fields ((b.fields.take i).foldl (dlStep E (dl E d) a.fields) (some (dlG a.fields b.fields))) b.fields[i] = none := by
              rw [hl]
              unfold dlStep
              simp only
              rw [hany]
              simp only [Bool.false_eq_true, if_false]
              cases hdd : dl E d ((hasF b.fields[i].1 a.fields).getD nulV) b.fields[i].2 with
              | none => rfl
              | some u =>
                rw [hdd] at hc96
                simp at hc96
                simp [hc96]
            refine wp_seq ?_
            refine wp_region_lit ?_
            refine s_val rfl rfl (v_build bd33 rfl rfl) ?_
            refine s_storeAllG cx 4 rfl rfl rfl hs4 rfl rfl sz33 rfl rfl ?_; intro w cx hg4
            refine s_val rfl rfl (v_assign rfl rfl) ?_
            refine wpList_nil ?_
            refine wp_ret ?_
            have hdn : dl E (d + 1) a b = none := by
              rw [dl_map h7, dl_fail _ (by omega) hstep]; rfl
            refine ret_cell2 (l := vrow (zk 0) (.slice none 0 0) (.slice none 0 0) (.slice none 0 0)) Try.results33 hs4 rfl (cx.at 4 rfl) Try.underlying33 rfl sz33 ⟨cx.ext, vrow (zk 0) (.slice none 0 0) (.slice none 0 0) (.slice none 0 0), ?_⟩
            rw [hdn]
            exact ⟨rfl, rep_nul⟩
          · skip
            skip
            obtain ⟨u, hdd, hk0⟩ : ∃ u, dl E d ((hasF b.fields[i].1 a.fields).getD nulV) b.fields[i].2 = some u ∧ b.fields[i].2.sc.kind ≠ 0 := by
              cases hdd : dl E d ((hasF b.fields[i].1 a.fields).getD nulV) b.fields[i].2 with
              | none => rw [hdd] at hc96; simp at hc96
              | some u => rw [hdd] at hc96; simp at hc96; exact ⟨u, rfl, hc96⟩
            rw [hdd] at hm86
            replace hm86 : RepV (fun b => Da A w0 wk [b2, b3, b4, b6] x b ∨ Fr wc86 wd86 b) wd86 u l86 := hm86
            obtain ⟨nbs, nls, nfs, rfl, _⟩ := hm86.open
            have hstep : dlStep E (dl E d) a.fields (some l) b.fields[i] = some (l ++ [(b.fields[i].1, u)]) := by
              unfold dlStep
              simp only
              rw [hany]
              simp [hdd, hk0]
            refine wp_skip ?_
            refine wp_region_lit ?_
            refine s_val rfl rfl (v_fa fa33_7 rfl hs6) ?_
            refine s_val rfl rfl (v_load1 rfl rfl Try.underlying31 rfl (cx.cell 3 rfl rfl)) ?_
            refine s_val rfl rfl (v_fa fa77_0 rfl hs9) ?_
            refine s_val rfl rfl (v_load1 rfl rfl Try.underlying9 rfl (cx.cell 2 rfl rfl)) ?_
            refine s_val rfl rfl (v_load rfl rfl Try.underlying33 rfl sz33 (cx.row 0 rfl) rfl) ?_
            refine s_val rfl rfl (v_build (bd77 _ _ _ _ _) rfl rfl) ?_
            refine s_bsl1 cx Try.underlying31 sz77 z77 rfl rfl rfl rfl rfl rfl rfl rfl ?_; intro b104 w cx hb104 hw104
            replace hK := hK.below hw104
            replace hKn := hKn.below hw104
            have hm0 := hK.sz
            have hm1 := hKn.sz
            refine s_appendG (m := 1) cx ei77 Try.underlying31 rfl rfl rfl rfl rfl (cx.row 0 rfl) rfl (by exact hm86.one) hlb ?_; intro v105 w cx hgr105 hnw105
            replace hK := hK.daOwn hA hgr105 rfl (fun q hq => (Made_lt cxc.head q hq).1)
            replace hKn := hKn.resOwn hA hgr105 rfl (fun q hq => ⟨(Made_lt cxc.head q hq).1, (Made_lt cxc.head q hq).2⟩)
            refine s_val rfl rfl (v_fa fa33_7 rfl hs6) ?_
            refine s_store1G (v := v105) cx 4 rfl rfl rfl rfl rfl (own_one cx.head) rfl rfl rfl ?_; intro w cx hg6
            replace hK := hK.daId hA hg6 (by simp) (cx.lts b6 (by simp)).1
            replace hKn := hKn.grown hg6 (fun b hb e => by simp at e; subst e; have h3 := (cxc.lts _ (by simp : b6 ∈ _)); rcases hb with (hb | hb) | hb; (have := hA _ hb; omega); (exact hb.2.1 (by simp)); (have := hb.1; omega))
            refine wpList_nil ?_
            refine wp_region_lit ?_
            refine s_val rfl rfl (v_move rfl hs8) ?_
            refine s_val rfl rfl (v_add rfl rfl rfl (by omega) (by omega)) ?_
            refine s_val rfl rfl (v_assign rfl rfl) ?_
            refine wpList_nil ?_
            refine ⟨gk10 - 1, _, by omega, rfl, i + 1, l ++ [(b.fields[i].1, u)], v105, rs ++ [.string b.fields[i].1 :: vrow u.sc nbs nls nfs], by omega, hs2, hs3, hs4, hs6, rfl, ?_, ?_, ?_⟩
            · rw [take_foldO (by omega), hl]; exact hstep
            · rw [List.length_append]
              simpa [vrow, mapV, zk] using cx.drop 4
            · refine RowsF.snoc _ _ (RowsF.mono (Da.step hK.sz hm0 hnw105) hK.kp _ _ hrows) (RepV.mono ?_ hKn.kp _ _ hm86)
              exact Da.res hA cxc.ext.size hs0 hKn.sz hcc (fun i hi => (cxc.lts i (by rcases (by simpa using hi : i = b2 ∨ i = b3 ∨ i = b4 ∨ i = b6) with rfl | rfl | rfl | rfl <;> simp)).2) (fun q hq => (Made_lt cxc.head q hq).2) hm1 hnw105
      · skip
        try simp only [Bool.and_eq_true, Bool.or_eq_true, Bool.and_eq_false_iff, Bool.or_eq_false_iff, Bool.not_eq_true', Bool.not_eq_false', decide_eq_true_eq, decide_eq_false_iff_not, beq_iff_eq, beq_eq_false_iff_ne, bne_iff_ne, bne_eq_false_iff_eq, ne_eq, Classical.not_not] at hc52
        have hK := Kp.da hA cx.ext.size [b2, b3, b4, b6] x
        refine wp_exit ?_
        refine wp_seq ?_
        refine wp_region_lit ?_
        refine s_val rfl rfl (v_load rfl hs6 Try.underlying33 rfl sz33 (l := vrow (zk 7) (.slice none 0 0) (.slice none 0 0) x) (cx.row 0 rfl) rfl) ?_
        refine s_storeAllG cx 1 rfl rfl rfl hs4 rfl rfl sz33 rfl (vrow_one rfl rfl (own_one cx.head)) ?_; intro w cx hg4
        replace hK := hK.daId hA hg4 (by simp) (cx.lts b4 (by simp)).1
        refine s_val rfl rfl (v_assign rfl rfl) ?_
        refine wpList_nil ?_
        refine wp_ret ?_
        have hi : i = b.fields.length := by omega
        subst hi
        rw [List.take_of_length_le (Nat.le_refl _)] at hl
        have hds : dl E (d + 1) a b = some (mapV l) := by rw [dl_map h7, hl]; rfl
        refine ret_cell2 Try.results33 hs4 rfl (cx.at 1 rfl) Try.underlying33 rfl sz33 ⟨cx.ext, vrow (zk 7) (.slice none 0 0) (.slice none 0 0) x, ?_⟩
        rw [hds]
        refine ⟨rfl, RepV.mk (v := mapV l) repB_nil repL_nil (RepF.mono ?_ (fun _ _ => rfl) (fld_of_row cx.head rfl (RowsF.mono (fun _ h => h) hK.kp _ _ hrows) (fun _ _ => rfl)))⟩
        rintro b (hb | hb)
        · exact Da.fin hK.sz b hb
        · exact .inr (Made_lt cx.head b hb)
end Go.Proofs.Ytmkihcdcgkdilaa
