/-
  Contracts: Sorted and Equal of the reference.
-/
import Derived.Test.YtmkihcdcgkdilaaSl
namespace Go.Proofs.Ytmkihcdcgkdilaa
open Go Go.Dk Go.RowKit
set_option linter.unusedSimpArgs false
set_option linter.unusedVariables false
attribute [local irreducible] Go.wpList Go.Code.wp Go.bodyPost Go.wpStill Go.wpQuiet
theorem Da.join {A : Nat → Prop} {w0 w : World} {L : List (Nat × Obj)} {R : List Row} {r : Row} {ids : List Nat} (cx : Cxr w0 w L (r :: R)) (hi : ∀ i ∈ ids, i ∈ L.map (·.1)) : ∀ b, Da A w0 w ids r.v b ∨ r.v.ownBlock = some b → Da A w0 w ids (.slice none 0 0) b := by
  rintro b ((h | h) | h)
  · exact .inl h
  · exact .inr (Dn.join cx hi b (.inl h))
  · exact .inr (Dn.join cx hi b (.inr h))
theorem Da.nil {A : Nat → Prop} {w0 w : World} {ids : List Nat} {v : Value} : ∀ b, Da A w0 w ids v b → Da A w0 w ids (.slice none 0 0) b := by
  rintro b (h | h)
  · exact .inl h
  · exact .inr (Dn.nil b h)
theorem Da.fin {A : Nat → Prop} {w0 w w' : World} {ids : List Nat} {v : Value} (hs : w.heap.size ≤ w'.heap.size) : ∀ b, Da A w0 w ids v b → A b ∨ Fr w0 w' b := by
  rintro b (h | h)
  · exact .inl h
  · exact .inr ⟨h.1.1, Nat.lt_of_lt_of_le h.1.2 hs⟩

set_option maxRecDepth 10000 in
set_option maxHeartbeats 3200000 in
theorem c56 : ∀ (v : V) (r : List Value) (A : Nat → Prop) (w0 : World), Fine v → (∀ b, A b → b < w0.heap.size) → RepV A w0 v r → Fc Try.prog 56 [.agg r.toArray] w0 (fun y w' => ∃ ry, y = .agg ry.toArray ∧ RepV (fun b => A b ∨ Fr w0 w' b) w' (canon v) ry) := by
  intro v
  induction v using V.ind2 with
  | h v ihl ihf =>
  intro r A w0 hfin hA hv
  have hself := hfin.self
  have hsfl := sortF_length v.fields
  obtain ⟨bs, ls, fs, rfl, hbs, hls, hfs⟩ := RepV.open hv
  obtain ⟨lb, lo, hlsl, hlreps⟩ := hls
  obtain ⟨la, lc, rfl, hla⟩ := hlsl.form
  have hlget := fun i x h => RepLs.get v.list lo i x hlreps h
  obtain ⟨fb, fo, hfsl, hfreps⟩ := id hfs
  obtain ⟨fa, fc, rfl, hfa⟩ := hfsl.form
  refine ret_enter Try.func56 rfl Try.ntmps56 rfl ?_
  have cx := Ctx.start w0
  refine wp_seq ?_
  refine wp_region_lit ?_
  refine s_box cx rfl rfl rfl rfl rfl ?_; intro b1 w cx hb1 hw1
  refine s_alloc cx z33 rfl rfl rfl ?_; intro b2 w cx hb2 hw2
  refine wpList_nil ?_
  refine wp_seq ?_
  refine wp_region_lit ?_
  refine s_val rfl rfl (v_load rfl rfl Try.underlying33 rfl sz33 (cx.row 1 rfl) rfl) ?_
  refine s_alloc cx z33 rfl rfl rfl ?_; intro b3 w cx hb3 hw3
  refine s_storeAllG cx 0 rfl rfl rfl rfl rfl rfl sz33 rfl (vrow_one hbs.one rfl rfl) ?_; intro w cx hg3
  refine wpList_nil ?_
  refine wp_seq ?_
  refine wp_region_lit ?_
  refine s_val rfl rfl (v_fa fa33_6 rfl rfl) ?_
  refine s_store1G cx 0 rfl rfl rfl rfl rfl rfl rfl rfl rfl ?_; intro w cx hg3
  refine wpList_nil ?_
  refine wp_seq ?_
  refine wp_region_lit ?_
  refine s_val rfl rfl (v_fa fa33_7 rfl rfl) ?_
  refine s_store1G cx 0 rfl rfl rfl rfl rfl rfl rfl rfl rfl ?_; intro w cx hg3
  refine wpList_nil ?_
  refine wp_seq ?_
  refine wp_seq ?_
  refine wp_region_lit ?_
  replace cx := cx.nilRow 33 13
  refine s_val rfl rfl (v_assign rfl rfl) ?_
  refine wpList_nil ?_
  refine wp_block ?_
  refine w_loop (fun k f w1 => ∃ (i : Nat) (x : Value) (rs : Els), k + i = v.list.length ∧ f 1 = .pointer (some ⟨b1, 0, none⟩) ∧ f 2 = .pointer (some ⟨b2, 0, none⟩) ∧ f 3 = .pointer (some ⟨b3, 0, none⟩) ∧ f 4 = .int .i64 i ∧ Cxr w0 w1 [(b3, .cells (vrow v.sc bs x (.slice none 0 0)).toArray 33), (b2, .cells ([.int .i64 0, .bool false, .bool false, .string ByteArray.empty, .int .i64 0, .int .i64 0, .int .i64 0, .int .i64 0, .int .i64 0, .string ByteArray.empty, .slice none 0 0, .slice none 0 0, .slice none 0 0] : List Value).toArray 33), (b1, .cells (vrow v.sc bs (.slice la v.list.length lc) (.slice fa v.fields.length fc)).toArray 33)] [⟨33, 13, x, i, rs.flatten⟩] ∧ RowsV (Da A w0 w1 [b1, b2, b3] x) w1 ((v.list.take i).map canon) rs) (v.list.length) ?_ ?_
  · skip
    exact ⟨0, _, [], by omega, rfl, rfl, rfl, rfl, cx, trivial⟩
  intro gk5 f w hJ
  obtain ⟨i, x, rs, hk, hs1, hs2, hs3, hs4, cx, hrows⟩ := hJ
  refine wp_seq ?_
  refine wp_seq ?_
  refine wp_region_lit ?_
  refine s_val rfl rfl (v_move rfl hs4) ?_
  refine s_val rfl rfl (v_fa fa33_6 rfl hs1) ?_
  refine s_val rfl rfl (v_load1 rfl rfl Try.underlying30 rfl (cx.cell 2 rfl rfl)) ?_
  refine s_val rfl rfl (v_lenSlice rfl rfl Try.underlying30) ?_
  refine s_val rfl rfl (v_cmp rfl rfl rfl rfl) ?_
  refine wpList_nil ?_
  refine c_split rfl (fun hc14 => ?_) (fun hc14 => ?_)
  · skip
    try simp only [Bool.and_eq_true, Bool.or_eq_true, Bool.and_eq_false_iff, Bool.or_eq_false_iff, Bool.not_eq_true', Bool.not_eq_false', decide_eq_true_eq, decide_eq_false_iff_not, beq_iff_eq, beq_eq_false_iff_ne, bne_iff_ne, bne_eq_false_iff_eq, ne_eq, Classical.not_not] at hc14
    obtain rfl := hla (by omega)
    obtain ⟨r, hr, hrv⟩ := hlget i v.list[i] (List.getElem?_eq_getElem (by omega))
    have hlz := hrv.len
    have hK := Kp.da hA cx.ext.size [b1, b2, b3] x
    obtain ⟨wk, rfl⟩ : ∃ y, y = w := ⟨_, rfl⟩
    have hk0 := cx.ext.size
    refine wp_skip ?_
    refine wp_seq ?_
    refine wp_block ?_
    refine w_ord cx (cx.pick2 0 2 rfl rfl rfl) mixed [(0, 17), (1, 18), (2, 19), (3, 20), (4, 21), (5, 22), (6, 23)] #[true, true, true, true, true, true, true, false, false, false, false, false] (by kernel_rfl) (by kernel_rfl) (by kernel_rfl) (by kernel_rfl) ?_
    refine pu_one rfl (wnt_none rfl) (fun w cx => v_fa fa33_6 rfl hs3) ?_
    refine pu_one rfl (wnt_none rfl) (fun w cx => v_load1 rfl rfl Try.underlying30 rfl (cx.cell 0 rfl rfl)) ?_
    refine pu_one rfl (wnt_none rfl) (fun w cx => v_fa fa33_6 rfl hs1) ?_
    refine pu_one rfl (wnt_none rfl) (fun w cx => v_load1 rfl rfl Try.underlying30 rfl (cx.cell 1 rfl rfl)) ?_
    refine pu_one rfl (wnt_none rfl) (fun w cx => v_move rfl hs4) ?_
    refine pu_one rfl (wnt_none rfl) (fun w cx => v_ia Try.underlying30 sz33 rfl rfl rfl (by omega) (by omega)) ?_
    refine pu_one rfl (wnt_none rfl) (fun w cx => v_load rfl rfl Try.underlying33 rfl sz33 (hr.up cx.ext) hrv.len) ?_
    refine pu_nil ?_; intro w cx hwD7
    replace hK := hK.below hwD7
    refine x_one (i := 7) (by kernel_rfl) rfl ?_
    obtain ⟨wc24, hwc24⟩ : ∃ y, y = w := ⟨_, rfl⟩
    subst hwc24
    have cxc := cx
    refine s_fn cx (ihl _ (List.getElem_mem _) _ A _ (hfin.elem (List.getElem_mem _)) (fun b hb => Nat.lt_of_lt_of_le (hA b hb) cx.ext.size) (RepV.mono (fun _ h => h) (fun b hb => cx.ext.block b (hA b hb)) _ _ hrv)) Try.func56 rfl rfl rfl rfl rfl rfl ?_; intro q24 w cx hw24 hp24
    obtain ⟨r24, rfl, hm24⟩ := hp24
    replace hm24 := RepV.mono (A' := fun b => Da A w0 wk [b1, b2, b3] x b ∨ Fr wc24 w b) (fun b hb => hb.elim (fun h => .inl (.inl h)) .inr) (fun _ _ => rfl) _ _ hm24
    have hKn := Kp.res (ids := [b1, b2, b3]) (v := x) hA hk0 hK.sz hw24
    have hs0 := hK.sz
    have hcc := hw24.size
    replace hK := hK.below hw24
    refine x_next ⟨.inl (cx.pick2 0 2 rfl rfl rfl), ?_⟩
    refine x_one (i := 8) (by kernel_rfl) rfl ?_
    refine s_bsl1 cx Try.underlying30 sz33 z33 rfl rfl rfl rfl rfl rfl rfl hm24.len ?_; intro b25 w cx hb25 hw25
    replace hK := hK.below hw25
    replace hKn := hKn.below hw25
    have hm0 := hK.sz
    have hm1 := hKn.sz
    refine x_next ⟨.inl (cx.pick2 1 3 rfl rfl rfl), ?_⟩
    refine x_one (i := 9) (by kernel_rfl) rfl ?_
    refine s_appendG (m := 1) cx ei33 Try.underlying30 rfl rfl rfl rfl rfl (cx.row 0 rfl) hm24.len hm24.one (by omega) ?_; intro v26 w cx hgr26 hnw26
    replace hKn := hKn.resOwn hA hgr26 rfl (fun q hq => ⟨(Made_lt cxc.head q hq).1, (Made_lt cxc.head q hq).2⟩)
    replace hK := hK.daOwn hA hgr26 rfl (fun q hq => (Made_lt cxc.head q hq).1)
    refine x_next ⟨.inr (by kernel_rfl), ?_⟩
    refine x_one (i := 10) (by kernel_rfl) rfl ?_
    refine s_val rfl rfl (v_fa fa33_6 rfl hs3) ?_
    refine x_next ⟨.inr (by kernel_rfl), ?_⟩
    refine x_one (i := 11) (by kernel_rfl) rfl ?_
    refine s_store1G (v := v26) cx 1 rfl rfl rfl rfl rfl (own_one cx.head) rfl rfl rfl ?_; intro w cx hg3
    replace hK := hK.daId hA hg3 (by simp) (cx.lts b3 (by simp)).1
    replace hKn := hKn.grown hg3 (fun b hb e => by simp at e; subst e; have h3 := (cxc.lts _ (by simp : b3 ∈ _)); rcases hb with (hb | hb) | hb; (have := hA _ hb; omega); (exact hb.2.1 (by simp)); (have := hb.1; omega))
    refine x_next ⟨.inr (by kernel_rfl), ?_⟩
    refine x_done (by kernel_rfl) ?_
    refine wp_region_lit ?_
    refine s_val rfl rfl (v_move rfl hs4) ?_
    refine s_val rfl rfl (v_add rfl rfl rfl (by omega) (by omega)) ?_
    refine s_val rfl rfl (v_assign rfl rfl) ?_
    refine wpList_nil ?_
    refine ⟨gk5 - 1, _, by omega, rfl, i + 1, v26, rs ++ [r24], by omega, hs1, hs2, hs3, rfl, by simpa [vrow] using cx.drop 1, ?_⟩
    rw [List.take_succ_eq_append_getElem (by omega), List.map_append]
    refine RowsV.snoc _ _ (RowsV.mono ?_ hK.kp _ _ hrows) (RepV.mono ?_ hKn.kp _ _ hm24)
    · exact Da.step hK.sz hm0 hnw26
    · exact Da.res hA cxc.ext.size hs0 hKn.sz hcc (fun i hi => (cxc.lts i (by rcases (by simpa using hi : i = b1 ∨ i = b2 ∨ i = b3) with rfl | rfl | rfl <;> simp)).2) (fun q hq => (Made_lt cxc.head q hq).2) hm1 hnw26
  · skip
    try simp only [Bool.and_eq_true, Bool.or_eq_true, Bool.and_eq_false_iff, Bool.or_eq_false_iff, Bool.not_eq_true', Bool.not_eq_false', decide_eq_true_eq, decide_eq_false_iff_not, beq_iff_eq, beq_eq_false_iff_ne, bne_iff_ne, bne_eq_false_iff_eq, ne_eq, Classical.not_not] at hc14
    refine wp_exit ?_
    refine wp_seq ?_
    refine wp_region_lit ?_
    have hi : i = v.list.length := by omega
    subst hi
    rw [List.take_of_length_le (Nat.le_refl _)] at hrows
    have hL0 := RepL.mono (Da.join (ids := [b1, b2, b3]) cx (by intro i hi; rcases (by simpa using hi : i = b1 ∨ i = b2 ∨ i = b3) with rfl | rfl | rfl <;> simp)) (fun _ _ => rfl) (lstA_of_row cx.head (by simp) hrows (fun _ _ => rfl))
    obtain ⟨x5, hx5⟩ : ∃ x5, x5 = x := ⟨_, rfl⟩
    subst hx5
    replace cx := (cx.dropR 1).nilRow 77 14
    refine s_val rfl rfl (v_fa fa33_7 rfl hs1) ?_
    refine s_val rfl rfl (v_load1 rfl rfl Try.underlying31 rfl (cx.cell 2 rfl rfl)) ?_
    have cxc := cx
    refine s_fn cx (c79 A v.fields _ _ (fun b hb => Nat.lt_of_lt_of_le (hA b hb) cx.ext.size) (RepF.mono (fun _ h => h) (fun b hb => cx.ext.block b (hA b hb)) hfs) hself.2.2.2.2) Try.func79 rfl rfl rfl rfl rfl rfl ?_; intro q30 w cx hw30 hp30
    obtain ⟨rs30, hrow30, hrs30⟩ := hp30
    have hK := (Kp.da (A := A) (v := .slice none 0 0) hA cxc.ext.size [b1, b2, b3] ).below hw30
    have hF0 : RepF (Da A w0 w [b1, b2, b3] (.slice none 0 0)) w q30 (sortF v.fields) := by
      refine RepF.mono ?_ (fun _ _ => rfl) (fld_of_row hrow30 rfl hrs30 (fun _ _ => rfl))
      rintro b (hb | hb)
      · exact .inl hb
      · have h1 := Made_lt hrow30 b hb
        exact .inr ⟨⟨Nat.le_trans cxc.ext.size h1.1, h1.2⟩, fun hm => by have := (fun i hi => (cxc.lts i (by rcases (by simpa using hi : i = b1 ∨ i = b2 ∨ i = b3) with rfl | rfl | rfl <;> simp)).2) b hm; omega, by simp [Value.ownBlock]⟩
    obtain ⟨_, _, hsl30, _⟩ := id hF0
    obtain ⟨qa, qc, hqe, _⟩ := hsl30.form
    replace hL0 := RepL.mono (Da.step (A := A) (w0 := w0) (ids := [b1, b2, b3]) (v := .slice none 0 0) (v' := .slice none 0 0) hK.sz (Nat.le_refl _) (fun q hq => .inl hq)) hK.kp hL0
    refine s_val rfl rfl (v_assign rfl rfl) ?_
    refine wpList_nil ?_
    refine wp_seq ?_
    refine wp_seq ?_
    refine wp_region_lit ?_
    refine s_val rfl rfl (v_assign rfl rfl) ?_
    refine wpList_nil ?_
    refine wp_block ?_
    refine w_loop (fun k f w1 => ∃ (i : Nat) (x : Value) (rs : Els), k + i = (sortF v.fields).length ∧ f 1 = .pointer (some ⟨b1, 0, none⟩) ∧ f 2 = .pointer (some ⟨b2, 0, none⟩) ∧ f 3 = .pointer (some ⟨b3, 0, none⟩) ∧ f 5 = q30 ∧ f 6 = .int .i64 i ∧ Cxr w0 w1 [(b3, .cells (vrow v.sc bs x5 x).toArray 33), (b2, .cells ([.int .i64 0, .bool false, .bool false, .string ByteArray.empty, .int .i64 0, .int .i64 0, .int .i64 0, .int .i64 0, .int .i64 0, .string ByteArray.empty, .slice none 0 0, .slice none 0 0, .slice none 0 0] : List Value).toArray 33), (b1, .cells (vrow v.sc bs (.slice la v.list.length lc) (.slice fa v.fields.length fc)).toArray 33)] [⟨77, 14, x, i, rs.flatten⟩] ∧ RepL (Da A w0 w1 [b1, b2, b3] x) w1 x5 (v.list.map canon) ∧ RepF (Da A w0 w1 [b1, b2, b3] x) w1 q30 (sortF v.fields) ∧ RowsF (Da A w0 w1 [b1, b2, b3] x) w1 (((sortF v.fields).take i).map fun kv => (kv.1, canon kv.2)) rs) ((sortF v.fields).length) ?_ ?_
    · skip
      exact ⟨0, _, [], by omega, hs1, hs2, hs3, rfl, rfl, cx, hL0, hF0, trivial⟩
    intro gk10 f w hJ
    obtain ⟨i, x, rs, hk, hs1, hs2, hs3, hs5, hs6, cx, hL, hF, hrows⟩ := hJ
    refine wp_seq ?_
    refine wp_seq ?_
    refine wp_region_lit ?_
    refine s_val rfl rfl (v_move rfl hs6) ?_
    refine s_val rfl rfl (v_move rfl hs5) ?_
    refine s_val rfl rfl (v_lenSlice rfl hqe Try.underlying31) ?_
    refine s_val rfl rfl (v_cmp rfl rfl rfl rfl) ?_
    refine wpList_nil ?_
    refine c_split rfl (fun hc34 => ?_) (fun hc34 => ?_)
    · skip
      try simp only [Bool.and_eq_true, Bool.or_eq_true, Bool.and_eq_false_iff, Bool.or_eq_false_iff, Bool.not_eq_true', Bool.not_eq_false', decide_eq_true_eq, decide_eq_false_iff_not, beq_iff_eq, beq_eq_false_iff_ne, bne_iff_ne, bne_eq_false_iff_eq, ne_eq, Classical.not_not] at hc34
      have hge : (sortF v.fields)[i]? = some (sortF v.fields)[i] := List.getElem?_eq_getElem (by omega)
      have hmemF : (sortF v.fields)[i] ∈ v.fields := sortF_mem.1 (List.getElem_mem _)
      have hK := Kp.da hA cx.ext.size [b1, b2, b3] x
      obtain ⟨wk, rfl⟩ : ∃ y, y = w := ⟨_, rfl⟩
      have hk0 := cx.ext.size
      obtain ⟨fqb, fqo, hfql, hfqr⟩ := id hF
      obtain ⟨fqa, fqc, hfqe, hfqa⟩ := hfql.form
      have hfqa' := hfqa (by omega)
      subst hfqa'
      have hfqA := hfql.inA (by omega)
      obtain ⟨r, hr, hrv⟩ := RepFs.get _ fqo i _ hfqr hge
      obtain ⟨ebs, els, efs, rfl, _⟩ := hrv.open
      refine wp_skip ?_
      refine wp_seq ?_
      refine wp_block ?_
      refine w_ord cx (cx.pick1 0 rfl) mixed [(0, 37), (1, 38), (2, 39), (3, 40), (4, 41), (5, 42), (7, 44), (8, 45), (9, 46), (10, 47)] #[true, true, true, true, true, true, false, true, true, true, true, false, false, false, false, false, false, false] (by kernel_rfl) (by kernel_rfl) (by kernel_rfl) (by kernel_rfl) ?_
      refine pu_one rfl (wnt_none rfl) (fun w cx => v_fa fa33_7 rfl hs3) ?_
      refine pu_one rfl (wnt_none rfl) (fun w cx => v_load1 rfl rfl Try.underlying31 rfl (cx.cell 0 rfl rfl)) ?_
      refine pu_one rfl (wnt_none rfl) (fun w cx => v_move rfl hs5) ?_
      refine pu_one rfl (wnt_none rfl) (fun w cx => v_move rfl hs6) ?_
      refine pu_one rfl (wnt_none rfl) (fun w cx => v_ia Try.underlying31 sz77 rfl hfqe rfl (by omega) (by omega)) ?_
      refine pu_one rfl (wnt_none rfl) (fun w cx => v_fa fa77_0 rfl rfl) ?_
      refine pu_one rfl (wnt_none rfl) (fun w cx => v_move rfl hs5) ?_
      refine pu_one rfl (wnt_none rfl) (fun w cx => v_move rfl hs6) ?_
      refine pu_one rfl (wnt_none rfl) (fun w cx => v_ia Try.underlying31 sz77 rfl hfqe rfl (by omega) (by omega)) ?_
      refine pu_one rfl (wnt_none rfl) (fun w cx => v_fa fa77_1 rfl rfl) ?_
      refine pu_nil ?_; intro w cx hwD12
      replace hK := hK.below hwD12
      refine x_two (i := 6) (j := 11) (by kernel_rfl) rfl rfl ?_ ?_
      · skip
        refine s_val rfl rfl (v_load1 rfl rfl Try.underlying9 rfl ((hr.keep (hK.kp _ hfqA)).cell 0 rfl)) ?_
        refine x_next ⟨.inl (cx.pick1 0 rfl), ?_⟩
        refine x_one (i := 11) (by kernel_rfl) rfl ?_
        refine s_val rfl rfl (v_load rfl rfl Try.underlying33 rfl sz33 ((hr.keep (hK.kp _ hfqA)).rv 1 rfl) rfl) ?_
        refine x_next ⟨.inl (cx.pick1 0 rfl), ?_⟩
        refine x_one (i := 12) (by kernel_rfl) rfl ?_
        have cxc := cx
        refine s_fn cx (ihf _ hmemF _ (Da A w0 wk [b1, b2, b3] x) _ (hfin.field hmemF).2 (fun b hb => Nat.lt_of_lt_of_le (Da.lt hA hk0 b hb) hK.sz) (RepV.mono (fun _ h => h) hK.kp _ _ hrv)) Try.func56 rfl rfl rfl rfl rfl rfl ?_; intro q49 w cx hw49 hp49
        obtain ⟨r49, rfl, hm49⟩ := hp49
        have hKn := Kp.res (ids := [b1, b2, b3]) (v := x) hA hk0 hK.sz hw49
        have hs0 := hK.sz
        have hcc := hw49.size
        replace hK := hK.below hw49
        obtain ⟨nbs, nls, nfs, rfl, _⟩ := hm49.open
        refine x_next ⟨.inl (cx.pick1 0 rfl), ?_⟩
        refine x_one (i := 13) (by kernel_rfl) rfl ?_
        refine s_val rfl rfl (v_build (bd77 _ _ _ _ _) rfl rfl) ?_
        refine x_next ⟨.inl (cx.pick1 0 rfl), ?_⟩
        refine x_one (i := 14) (by kernel_rfl) rfl ?_
        refine s_bsl1 cx Try.underlying31 sz77 z77 rfl rfl rfl rfl rfl rfl rfl rfl ?_; intro b51 w cx hb51 hw51
        replace hK := hK.below hw51
        replace hKn := hKn.below hw51
        have hm0 := hK.sz
        have hm1 := hKn.sz
        refine x_next ⟨.inl (cx.pick1 1 rfl), ?_⟩
        refine x_one (i := 15) (by kernel_rfl) rfl ?_
        refine s_appendG (m := 1) cx ei77 Try.underlying31 rfl rfl rfl rfl rfl (cx.row 0 rfl) rfl (by exact hm49.one) (by omega) ?_; intro v52 w cx hgr52 hnw52
        replace hKn := hKn.resOwn hA hgr52 rfl (fun q hq => ⟨(Made_lt cxc.head q hq).1, (Made_lt cxc.head q hq).2⟩)
        replace hK := hK.daOwn hA hgr52 rfl (fun q hq => (Made_lt cxc.head q hq).1)
        refine x_next ⟨.inr (by kernel_rfl), ?_⟩
        refine x_one (i := 16) (by kernel_rfl) rfl ?_
        refine s_val rfl rfl (v_fa fa33_7 rfl hs3) ?_
        refine x_next ⟨.inr (by kernel_rfl), ?_⟩
        refine x_one (i := 17) (by kernel_rfl) rfl ?_
        refine s_store1G (v := v52) cx 1 rfl rfl rfl rfl rfl (own_one cx.head) rfl rfl rfl ?_; intro w cx hg3
        replace hK := hK.daId hA hg3 (by simp) (cx.lts b3 (by simp)).1
        replace hKn := hKn.grown hg3 (fun b hb e => by simp at e; subst e; have h3 := (cxc.lts _ (by simp : b3 ∈ _)); rcases hb with (hb | hb) | hb; (have := hA _ hb; omega); (exact hb.2.1 (by simp)); (have := hb.1; omega))
        refine x_next ⟨.inr (by kernel_rfl), ?_⟩
        refine x_done (by kernel_rfl) ?_
        refine wp_region_lit ?_
        refine s_val rfl rfl (v_move rfl hs6) ?_
        refine s_val rfl rfl (v_add rfl rfl rfl (by omega) (by omega)) ?_
        refine s_val rfl rfl (v_assign rfl rfl) ?_
        refine wpList_nil ?_
        have hst := Da.step (A := A) (w0 := w0) (ids := [b1, b2, b3]) hK.sz hm0 hnw52
        refine ⟨gk10 - 1, _, by omega, rfl, i + 1, v52, rs ++ [.string (sortF v.fields)[i].1 :: vrow (canon (sortF v.fields)[i].2).sc nbs nls nfs], by omega, hs1, hs2, hs3, hs5, rfl, by simpa [vrow] using cx.drop 1, RepL.mono hst hK.kp hL, RepF.mono hst hK.kp hF, ?_⟩
        rw [List.take_succ_eq_append_getElem (by omega), List.map_append]
        refine RowsF.snoc _ _ (RowsF.mono hst hK.kp _ _ hrows) (RepV.mono ?_ hKn.kp _ _ hm49)
        exact Da.res hA cxc.ext.size hs0 hKn.sz hcc (fun i hi => (cxc.lts i (by rcases (by simpa using hi : i = b1 ∨ i = b2 ∨ i = b3) with rfl | rfl | rfl <;> simp)).2) (fun q hq => (Made_lt cxc.head q hq).2) hm1 hnw52
      · skip
        refine s_val rfl rfl (v_load rfl rfl Try.underlying33 rfl sz33 ((hr.keep (hK.kp _ hfqA)).rv 1 rfl) rfl) ?_
        refine x_next ⟨.inl (cx.pick1 0 rfl), ?_⟩
        refine x_two (i := 6) (j := 12) (by kernel_rfl) rfl rfl ?_ ?_
        · skip
          refine s_val rfl rfl (v_load1 rfl rfl Try.underlying9 rfl ((hr.keep (hK.kp _ hfqA)).cell 0 rfl)) ?_
          refine x_next ⟨.inl (cx.pick1 0 rfl), ?_⟩
          refine x_one (i := 12) (by kernel_rfl) rfl ?_
          have cxc := cx
          refine s_fn cx (ihf _ hmemF _ (Da A w0 wk [b1, b2, b3] x) _ (hfin.field hmemF).2 (fun b hb => Nat.lt_of_lt_of_le (Da.lt hA hk0 b hb) hK.sz) (RepV.mono (fun _ h => h) hK.kp _ _ hrv)) Try.func56 rfl rfl rfl rfl rfl rfl ?_; intro q49 w cx hw49 hp49
          obtain ⟨r49, rfl, hm49⟩ := hp49
          have hKn := Kp.res (ids := [b1, b2, b3]) (v := x) hA hk0 hK.sz hw49
          have hs0 := hK.sz
          have hcc := hw49.size
          replace hK := hK.below hw49
          obtain ⟨nbs, nls, nfs, rfl, _⟩ := hm49.open
          refine x_next ⟨.inl (cx.pick1 0 rfl), ?_⟩
          refine x_one (i := 13) (by kernel_rfl) rfl ?_
          refine s_val rfl rfl (v_build (bd77 _ _ _ _ _) rfl rfl) ?_
          refine x_next ⟨.inl (cx.pick1 0 rfl), ?_⟩
          refine x_one (i := 14) (by kernel_rfl) rfl ?_
          refine s_bsl1 cx Try.underlying31 sz77 z77 rfl rfl rfl rfl rfl rfl rfl rfl ?_; intro b51 w cx hb51 hw51
          replace hK := hK.below hw51
          replace hKn := hKn.below hw51
          have hm0 := hK.sz
          have hm1 := hKn.sz
          refine x_next ⟨.inl (cx.pick1 1 rfl), ?_⟩
          refine x_one (i := 15) (by kernel_rfl) rfl ?_
          refine s_appendG (m := 1) cx ei77 Try.underlying31 rfl rfl rfl rfl rfl (cx.row 0 rfl) rfl (by exact hm49.one) (by omega) ?_; intro v52 w cx hgr52 hnw52
          replace hKn := hKn.resOwn hA hgr52 rfl (fun q hq => ⟨(Made_lt cxc.head q hq).1, (Made_lt cxc.head q hq).2⟩)
          replace hK := hK.daOwn hA hgr52 rfl (fun q hq => (Made_lt cxc.head q hq).1)
          refine x_next ⟨.inr (by kernel_rfl), ?_⟩
          refine x_one (i := 16) (by kernel_rfl) rfl ?_
          refine s_val rfl rfl (v_fa fa33_7 rfl hs3) ?_
          refine x_next ⟨.inr (by kernel_rfl), ?_⟩
          refine x_one (i := 17) (by kernel_rfl) rfl ?_
          refine s_store1G (v := v52) cx 1 rfl rfl rfl rfl rfl (own_one cx.head) rfl rfl rfl ?_; intro w cx hg3
          replace hK := hK.daId hA hg3 (by simp) (cx.lts b3 (by simp)).1
          replace hKn := hKn.grown hg3 (fun b hb e => by simp at e; subst e; have h3 := (cxc.lts _ (by simp : b3 ∈ _)); rcases hb with (hb | hb) | hb; (have := hA _ hb; omega); (exact hb.2.1 (by simp)); (have := hb.1; omega))
          refine x_next ⟨.inr (by kernel_rfl), ?_⟩
          refine x_done (by kernel_rfl) ?_
          refine wp_region_lit ?_
          refine s_val rfl rfl (v_move rfl hs6) ?_
          refine s_val rfl rfl (v_add rfl rfl rfl (by omega) (by omega)) ?_
          refine s_val rfl rfl (v_assign rfl rfl) ?_
          refine wpList_nil ?_
          have hst := Da.step (A := A) (w0 := w0) (ids := [b1, b2, b3]) hK.sz hm0 hnw52
          refine ⟨gk10 - 1, _, by omega, rfl, i + 1, v52, rs ++ [.string (sortF v.fields)[i].1 :: vrow (canon (sortF v.fields)[i].2).sc nbs nls nfs], by omega, hs1, hs2, hs3, hs5, rfl, by simpa [vrow] using cx.drop 1, RepL.mono hst hK.kp hL, RepF.mono hst hK.kp hF, ?_⟩
          rw [List.take_succ_eq_append_getElem (by omega), List.map_append]
          refine RowsF.snoc _ _ (RowsF.mono hst hK.kp _ _ hrows) (RepV.mono ?_ hKn.kp _ _ hm49)
          exact Da.res hA cxc.ext.size hs0 hKn.sz hcc (fun i hi => (cxc.lts i (by rcases (by simpa using hi : i = b1 ∨ i = b2 ∨ i = b3) with rfl | rfl | rfl <;> simp)).2) (fun q hq => (Made_lt cxc.head q hq).2) hm1 hnw52
        · skip
          have cxc := cx
          refine s_fn cx (ihf _ hmemF _ (Da A w0 wk [b1, b2, b3] x) _ (hfin.field hmemF).2 (fun b hb => Nat.lt_of_lt_of_le (Da.lt hA hk0 b hb) hK.sz) (RepV.mono (fun _ h => h) hK.kp _ _ hrv)) Try.func56 rfl rfl rfl rfl rfl rfl ?_; intro q49 w cx hw49 hp49
          obtain ⟨r49, rfl, hm49⟩ := hp49
          have hKn := Kp.res (ids := [b1, b2, b3]) (v := x) hA hk0 hK.sz hw49
          have hs0 := hK.sz
          have hcc := hw49.size
          replace hK := hK.below hw49
          obtain ⟨nbs, nls, nfs, rfl, _⟩ := hm49.open
          refine x_next ⟨.inl (cx.pick1 0 rfl), ?_⟩
          refine x_one (i := 6) (by kernel_rfl) rfl ?_
          refine s_val rfl rfl (v_load1 rfl rfl Try.underlying9 rfl ((hr.keep (hK.kp _ hfqA)).cell 0 rfl)) ?_
          refine x_next ⟨.inl (cx.pick1 0 rfl), ?_⟩
          refine x_one (i := 13) (by kernel_rfl) rfl ?_
          refine s_val rfl rfl (v_build (bd77 _ _ _ _ _) rfl rfl) ?_
          refine x_next ⟨.inl (cx.pick1 0 rfl), ?_⟩
          refine x_one (i := 14) (by kernel_rfl) rfl ?_
          refine s_bsl1 cx Try.underlying31 sz77 z77 rfl rfl rfl rfl rfl rfl rfl rfl ?_; intro b51 w cx hb51 hw51
          replace hK := hK.below hw51
          replace hKn := hKn.below hw51
          have hm0 := hK.sz
          have hm1 := hKn.sz
          refine x_next ⟨.inl (cx.pick1 1 rfl), ?_⟩
          refine x_one (i := 15) (by kernel_rfl) rfl ?_
          refine s_appendG (m := 1) cx ei77 Try.underlying31 rfl rfl rfl rfl rfl (cx.row 0 rfl) rfl (by exact hm49.one) (by omega) ?_; intro v52 w cx hgr52 hnw52
          replace hKn := hKn.resOwn hA hgr52 rfl (fun q hq => ⟨(Made_lt cxc.head q hq).1, (Made_lt cxc.head q hq).2⟩)
          replace hK := hK.daOwn hA hgr52 rfl (fun q hq => (Made_lt cxc.head q hq).1)
          refine x_next ⟨.inr (by kernel_rfl), ?_⟩
          refine x_one (i := 16) (by kernel_rfl) rfl ?_
          refine s_val rfl rfl (v_fa fa33_7 rfl hs3) ?_
          refine x_next ⟨.inr (by kernel_rfl), ?_⟩
          refine x_one (i := 17) (by kernel_rfl) rfl ?_
          refine s_store1G (v := v52) cx 1 rfl rfl rfl rfl rfl (own_one cx.head) rfl rfl rfl ?_; intro w cx hg3
          replace hK := hK.daId hA hg3 (by simp) (cx.lts b3 (by simp)).1
          replace hKn := hKn.grown hg3 (fun b hb e => by simp at e; subst e; have h3 := (cxc.lts _ (by simp : b3 ∈ _)); rcases hb with (hb | hb) | hb; (have := hA _ hb; omega); (exact hb.2.1 (by simp)); (have := hb.1; omega))
          refine x_next ⟨.inr (by kernel_rfl), ?_⟩
          refine x_done (by kernel_rfl) ?_
          refine wp_region_lit ?_
          refine s_val rfl rfl (v_move rfl hs6) ?_
          refine s_val rfl rfl (v_add rfl rfl rfl (by omega) (by omega)) ?_
          refine s_val rfl rfl (v_assign rfl rfl) ?_
          refine wpList_nil ?_
          have hst := Da.step (A := A) (w0 := w0) (ids := [b1, b2, b3]) hK.sz hm0 hnw52
          refine ⟨gk10 - 1, _, by omega, rfl, i + 1, v52, rs ++ [.string (sortF v.fields)[i].1 :: vrow (canon (sortF v.fields)[i].2).sc nbs nls nfs], by omega, hs1, hs2, hs3, hs5, rfl, by simpa [vrow] using cx.drop 1, RepL.mono hst hK.kp hL, RepF.mono hst hK.kp hF, ?_⟩
          rw [List.take_succ_eq_append_getElem (by omega), List.map_append]
          refine RowsF.snoc _ _ (RowsF.mono hst hK.kp _ _ hrows) (RepV.mono ?_ hKn.kp _ _ hm49)
          exact Da.res hA cxc.ext.size hs0 hKn.sz hcc (fun i hi => (cxc.lts i (by rcases (by simpa using hi : i = b1 ∨ i = b2 ∨ i = b3) with rfl | rfl | rfl <;> simp)).2) (fun q hq => (Made_lt cxc.head q hq).2) hm1 hnw52
    · skip
      try simp only [Bool.and_eq_true, Bool.or_eq_true, Bool.and_eq_false_iff, Bool.or_eq_false_iff, Bool.not_eq_true', Bool.not_eq_false', decide_eq_true_eq, decide_eq_false_iff_not, beq_iff_eq, beq_eq_false_iff_ne, bne_iff_ne, bne_eq_false_iff_eq, ne_eq, Classical.not_not] at hc34
      have hK := Kp.da hA cx.ext.size [b1, b2, b3] x
      obtain ⟨wk, rfl⟩ : ∃ y, y = w := ⟨_, rfl⟩
      have hi : i = (sortF v.fields).length := by omega
      subst hi
      rw [List.take_of_length_le (Nat.le_refl _)] at hrows
      refine wp_exit ?_
      refine wp_seq ?_
      refine wp_region_lit ?_
      refine s_val rfl rfl (v_load rfl hs3 Try.underlying33 rfl sz33 (l := vrow v.sc bs x5 x) (cx.row 0 rfl) rfl) ?_
      refine s_storeAllG cx 1 rfl rfl rfl hs2 rfl rfl sz33 rfl (vrow_one hbs.one hL.one (own_one cx.head)) ?_; intro w cx hg2
      replace hK := hK.daId hA hg2 (by simp) (cx.lts b2 (by simp)).1
      refine wpList_nil ?_
      refine wp_ret ?_
      refine ret_cell Try.results56 hs2 (cx.at 1 rfl) Try.underlying33 rfl sz33 ⟨cx.ext, _, rfl, ?_⟩
      rw [canon_eq]
      refine RepV.mk (v := .mk v.sc v.bytes (v.list.map canon) ((sortF v.fields).map fun kv => (kv.1, canon kv.2))) ?_ ?_ ?_
      · exact RepB.mono (fun b hb => .inl hb) (fun b hb => cx.ext.block b (hA b hb)) hbs
      · exact RepL.mono (Da.fin hK.sz) hK.kp hL
      · have hfw := fld_of_row cx.head (by simp) (RowsF.mono (fun _ h => h) hK.kp _ _ hrows) (fun _ _ => rfl)
        refine RepF.mono ?_ (fun _ _ => rfl) hfw
        rintro b (hb | hb)
        · exact Da.fin hK.sz b hb
        · exact .inr (Made_lt cx.head b hb)

theorem szd_canon (N : Nat) : ∀ (d : Nat) (v : V), szd N d v → szd N d (canon v)
  | 0, _, _ => trivial
  | d + 1, v, h => by
    obtain ⟨h1, h2, h3, h4, h5, h6, h7⟩ := h
    rw [canon_eq]
    refine ⟨h1, h2, h3, by simpa [V.list] using h4, by simpa [V.fields, sortF_length] using h5, fun x hx => ?_, fun kv hk => ?_⟩
    · obtain ⟨y, hy, rfl⟩ := List.mem_map.1 hx
      exact szd_canon N d y (h6 y hy)
    · obtain ⟨y, hy, rfl⟩ := List.mem_map.1 hk
      exact ⟨(h7 y (sortF_mem.1 hy)).1, szd_canon N d y.2 (h7 y (sortF_mem.1 hy)).2⟩
theorem fine_canon {v : V} (h : Fine v) : Fine (canon v) := fun d => szd_canon 1048576 d v (h d)

set_option maxRecDepth 10000 in
theorem c27 (x y : V) (r r' : List Value) (w0 : World) (hf : Fine x) (hf2 : Fine y) (hx : Val w0 x r) (hy : Val w0 y r') : Fc Try.prog 27 [.agg r.toArray, .agg r'.toArray] w0 (IsB fun b => b = true ↔ canon x = canon y) := by
  refine ret_enter Try.func27 rfl Try.ntmps27 rfl ?_
  have cx := Ctx.start w0
  refine wp_seq ?_
  refine wp_region_lit ?_
  refine s_box cx rfl rfl rfl rfl rfl ?_; intro b2 w cx hb2 hw2
  refine s_box cx rfl rfl rfl rfl rfl ?_; intro b3 w cx hb3 hw3
  refine s_val rfl rfl (v_assign rfl rfl) ?_
  refine wpList_nil ?_
  refine wp_seq ?_
  refine w_ord cx (cx.pick2 1 0 rfl rfl rfl) mixed [(0, 5), (2, 7)] #[true, false, true, false, false, false] (by kernel_rfl) (by kernel_rfl) (by kernel_rfl) (by kernel_rfl) ?_
  refine pu_one rfl (wnt_none rfl) (fun w cx => v_load rfl rfl Try.underlying33 rfl sz33 (cx.row 0 rfl) hx.len) ?_
  refine pu_one rfl (wnt_none rfl) (fun w cx => v_load rfl rfl Try.underlying33 rfl sz33 (cx.row 1 rfl) hy.len) ?_
  refine pu_nil ?_; intro w cx hwD1
  refine x_one (i := 1) (by kernel_rfl) rfl ?_
  refine s_fn cx (c56 x _ (fun b => b < w0.heap.size) _ hf (fun b hb => Nat.lt_of_lt_of_le hb cx.ext.size) (RepV.mono (fun _ h => h) (fun b hb => cx.ext.block b hb) _ _ hx)) Try.func56 rfl rfl rfl rfl rfl rfl ?_; intro q6 w cx hw6 hp6
  obtain ⟨r6, rfl, hm6⟩ := hp6
  have hv6 : Val w (canon x) r6 := RepV.mono (fun b hb => hb.elim (fun h => Nat.lt_of_lt_of_le h cx.ext.size) (fun h => h.2)) (fun _ _ => rfl) _ _ hm6
  refine x_next ⟨.inl (cx.pick2 1 0 rfl rfl rfl), ?_⟩
  refine x_one (i := 3) (by kernel_rfl) rfl ?_
  refine s_fn cx (c56 y _ (fun b => b < w0.heap.size) _ hf2 (fun b hb => Nat.lt_of_lt_of_le hb cx.ext.size) (RepV.mono (fun _ h => h) (fun b hb => cx.ext.block b hb) _ _ hy)) Try.func56 rfl rfl rfl rfl rfl rfl ?_; intro q8 w cx hw8 hp8
  obtain ⟨r8, rfl, hm8⟩ := hp8
  have hv8 : Val w (canon y) r8 := RepV.mono (fun b hb => hb.elim (fun h => Nat.lt_of_lt_of_le h cx.ext.size) (fun h => h.2)) (fun _ _ => rfl) _ _ hm8
  replace hv6 := hv6.up hw8
  refine x_next ⟨.inr (by kernel_rfl), ?_⟩
  refine x_one (i := 4) (by kernel_rfl) rfl ?_
  refine s_fnB cx (c22g _ _ _ _ _ hv6 hv8 (fine_canon hf) (fine_canon hf2)) Try.func22 rfl rfl rfl rfl rfl rfl ?_; intro q9 w cx hw9 hp9
  refine x_next ⟨.inr (by kernel_rfl), ?_⟩
  refine x_one (i := 5) (by kernel_rfl) rfl ?_
  refine s_val rfl rfl (v_assign rfl rfl) ?_
  refine x_next ⟨.inr (by kernel_rfl), ?_⟩
  refine x_done (by kernel_rfl) ?_
  refine wp_ret ?_
  refine ret_tmp Try.results27 rfl ?_
  exact ⟨cx.ext, _, rfl, hp9⟩
end Go.Proofs.Ytmkihcdcgkdilaa
