/-
  What the law DiffBack rests on: several texts in one.
-/
import Derived.Test.YtmkihcdcgkdilaaPG
import Derived.MapKept
import Derived.Laws.OwnMore
section
namespace Go.Proofs.Ytmkihcdcgkdilaa
open Go Go.Dk Go.RowKit
set_option linter.unusedSimpArgs false
set_option linter.unusedVariables false
attribute [local irreducible] Go.wpList Go.Code.wp Go.bodyPost Go.wpStill Go.wpQuiet
theorem Da.join {A : Nat → Prop} {w0 w : World} {L : List (Nat × Obj)} {R : List Row} {r : Row} {ids : List Nat} (cx : Cxr w0 w L (r :: R)) (hi : ∀ i ∈ ids, i ∈ L.map (·.1)) : ∀ b, Da A w0 w ids r.v b ∨ r.v.ownBlock = some b → Da A w0 w ids (.slice none 0 0) b := by
  rintro b ((h | h) | h)
  · exact .inl h
  · exact .inr (Dn.join cx hi b (.inl h))
  · exact .inr (Dn.join cx hi b (.inr h))
theorem Da.nil {A : Nat → Prop} {w0 w : World} {ids : List Nat} {v : Value} : ∀ b, Da A w0 w ids v b → Da A w0 w ids (.slice none 0 0) b := by
  rintro b (h | h)
  · exact .inl h
  · exact .inr (Dn.nil b h)
theorem Da.fin {A : Nat → Prop} {w0 w w' : World} {ids : List Nat} {v : Value} (hs : w.heap.size ≤ w'.heap.size) : ∀ b, Da A w0 w ids v b → A b ∨ Fr w0 w' b := by
  rintro b (h | h)
  · exact .inl h
  · exact .inr ⟨h.1.1, Nat.lt_of_lt_of_le h.1.2 hs⟩
set_option maxRecDepth 10000 in
set_option maxHeartbeats 3200000 in
theorem c56 : ∀ (v : V) (r : List Value) (A : Nat → Prop) (w0 : World), Fine v → (∀ b, A b → b < w0.heap.size) → RepV A w0 v r → Fc Try.prog 56 [.agg r.toArray] w0 (fun y w' => ∃ ry, y = .agg ry.toArray ∧ RepV (fun b => A b ∨ Fr w0 w' b) w' (canon v) ry) := by
  intro v
  induction v using V.ind2 with
  | h v ihl ihf =>
  intro r A w0 hfin hA hv
  have hself := hfin.self
  have hsfl := sortF_length v.fields
  obtain ⟨bs, ls, fs, rfl, hbs, hls, hfs⟩ := RepV.open hv
  obtain ⟨lb, lo, hlsl, hlreps⟩ := hls
  obtain ⟨la, lc, rfl, hla⟩ := hlsl.form
  have hlget := fun i x h => RepLs.get v.list lo i x hlreps h
  obtain ⟨fb, fo, hfsl, hfreps⟩ := id hfs
  obtain ⟨fa, fc, rfl, hfa⟩ := hfsl.form
  refine ret_enter Try.func56 rfl Try.ntmps56 rfl ?_
  have cx := Ctx.start w0
  refine wp_seq ?_
  refine wp_region_lit ?_
  refine s_box cx rfl rfl rfl rfl rfl ?_; intro b1 w cx hb1 hw1
  refine s_alloc cx z33 rfl rfl rfl ?_; intro b2 w cx hb2 hw2
  refine wpList_nil ?_
  refine wp_seq ?_
  refine wp_region_lit ?_
  refine s_val rfl rfl (v_load rfl rfl Try.underlying33 rfl sz33 (cx.row 1 rfl) rfl) ?_
  refine s_alloc cx z33 rfl rfl rfl ?_; intro b3 w cx hb3 hw3
  refine s_storeAllG cx 0 rfl rfl rfl rfl rfl rfl sz33 rfl (vrow_one hbs.one rfl rfl) ?_; intro w cx hg3
  refine wpList_nil ?_
  refine wp_seq ?_
  refine wp_region_lit ?_
  refine s_val rfl rfl (v_fa fa33_6 rfl rfl) ?_
  refine s_store1G cx 0 rfl rfl rfl rfl rfl rfl rfl rfl rfl ?_; intro w cx hg3
  refine wpList_nil ?_
  refine wp_seq ?_
  refine wp_region_lit ?_
  refine s_val rfl rfl (v_fa fa33_7 rfl rfl) ?_
  refine s_store1G cx 0 rfl rfl rfl rfl rfl rfl rfl rfl rfl ?_; intro w cx hg3
  refine wpList_nil ?_
  refine wp_seq ?_
  refine wp_seq ?_
  refine wp_region_lit ?_
  replace cx := cx.nilRow 33 13
  refine s_val rfl rfl (v_assign rfl rfl) ?_
  refine wpList_nil ?_
  refine wp_block ?_
  refine w_loop (fun k f w1 => ∃ (i : Nat) (x : Value) (rs : Els), k + i = v.list.length ∧ f 1 = .pointer (some ⟨b1, 0, none⟩) ∧ f 2 = .pointer (some ⟨b2, 0, none⟩) ∧ f 3 = .pointer (some ⟨b3, 0, none⟩) ∧ f 4 = .int .i64 i ∧ Cxr w0 w1 [(b3, .cells (vrow v.sc bs x (.slice none 0 0)).toArray 33), (b2, .cells ([.int .i64 0, .bool false, .bool false, .string ByteArray.empty, .int .i64 0, .int .i64 0, .int .i64 0, .int .i64 0, .int .i64 0, .string ByteArray.empty, .slice none 0 0, .slice none 0 0, .slice none 0 0] : List Value).toArray 33), (b1, .cells (vrow v.sc bs (.slice la v.list.length lc) (.slice fa v.fields.length fc)).toArray 33)] [⟨33, 13, x, i, rs.flatten⟩] ∧ RowsV (Da A w0 w1 [b1, b2, b3] x) w1 ((v.list.take i).map canon) rs) (v.list.length) ?_ ?_
  · skip
    exact ⟨0, _, [], by omega, rfl, rfl, rfl, rfl, cx, trivial⟩
  intro gk5 f w hJ
  obtain ⟨i, x, rs, hk, hs1, hs2, hs3, hs4, cx, hrows⟩ := hJ
  refine wp_seq ?_
  refine wp_seq ?_
  refine wp_region_lit ?_
  refine s_val rfl rfl (v_move rfl hs4) ?_
  refine s_val rfl rfl (v_fa fa33_6 rfl hs1) ?_
  refine s_val rfl rfl (v_load1 rfl rfl Try.underlying30 rfl (cx.cell 2 rfl rfl)) ?_
  refine s_val rfl rfl (v_lenSlice rfl rfl Try.underlying30) ?_
  refine s_val rfl rfl (v_cmp rfl rfl rfl rfl) ?_
  refine wpList_nil ?_
  refine c_split rfl (fun hc14 => ?_) (fun hc14 => ?_)
  · skip
    try simp only [bsl] at hc14
    obtain rfl := hla (by omega)
    obtain ⟨r, hr, hrv⟩ := hlget i v.list[i] (List.getElem?_eq_getElem (by omega))
    have hlz := hrv.len
    have hK := Kp.da hA cx.ext.size [b1, b2, b3] x
    obtain ⟨wk, rfl⟩ : ∃ y, y = w := ⟨_, rfl⟩
    have hk0 := cx.ext.size
    refine wp_skip ?_
    refine wp_seq ?_
    refine wp_block ?_
    refine w_ord cx (cx.pick2 0 2 rfl rfl rfl) mixed [(0, 17), (1, 18), (2, 19), (3, 20), (4, 21), (5, 22), (6, 23)] #[true, true, true, true, true, true, true, false, false, false, false, false] (by kernel_rfl) (by kernel_rfl) (by kernel_rfl) (by kernel_rfl) ?_
    refine pu_one rfl (wnt_none rfl) (fun w cx => v_fa fa33_6 rfl hs3) ?_
    refine pu_one rfl (wnt_none rfl) (fun w cx => v_load1 rfl rfl Try.underlying30 rfl (cx.cell 0 rfl rfl)) ?_
    refine pu_one rfl (wnt_none rfl) (fun w cx => v_fa fa33_6 rfl hs1) ?_
    refine pu_one rfl (wnt_none rfl) (fun w cx => v_load1 rfl rfl Try.underlying30 rfl (cx.cell 1 rfl rfl)) ?_
    refine pu_one rfl (wnt_none rfl) (fun w cx => v_move rfl hs4) ?_
    refine pu_one rfl (wnt_none rfl) (fun w cx => v_ia Try.underlying30 sz33 rfl rfl rfl (by omega) (by omega)) ?_
    refine pu_one rfl (wnt_none rfl) (fun w cx => v_load rfl rfl Try.underlying33 rfl sz33 (hr.up cx.ext) hrv.len) ?_
    refine pu_nil ?_; intro w cx hwD7
    replace hK := hK.below hwD7
    refine x_one (i := 7) (by kernel_rfl) rfl ?_
    obtain ⟨wc24, hwc24⟩ : ∃ y, y = w := ⟨_, rfl⟩
    subst hwc24
    have cxc := cx
    refine s_fn cx (ihl _ (List.getElem_mem _) _ A _ (hfin.elem (List.getElem_mem _)) (fun b hb => Nat.lt_of_lt_of_le (hA b hb) cx.ext.size) (RepV.mono (fun _ h => h) (fun b hb => cx.ext.block b (hA b hb)) _ _ hrv)) Try.func56 rfl rfl rfl rfl rfl rfl ?_; intro q24 w cx hw24 hp24
    obtain ⟨r24, rfl, hm24⟩ := hp24
    replace hm24 := RepV.mono (A' := fun b => Da A w0 wk [b1, b2, b3] x b ∨ Fr wc24 w b) (fun b hb => hb.elim (fun h => .inl (.inl h)) .inr) (fun _ _ => rfl) _ _ hm24
    have hKn := Kp.res (ids := [b1, b2, b3]) (v := x) hA hk0 hK.sz hw24
    have hs0 := hK.sz
    have hcc := hw24.size
    replace hK := hK.below hw24
    refine x_next ⟨.inl (cx.pick2 0 2 rfl rfl rfl), ?_⟩
    refine x_one (i := 8) (by kernel_rfl) rfl ?_
    refine s_bsl1 cx Try.underlying30 sz33 z33 rfl rfl rfl rfl rfl rfl rfl hm24.len ?_; intro b25 w cx hb25 hw25
    replace hK := hK.below hw25
    replace hKn := hKn.below hw25
    have hm0 := hK.sz
    have hm1 := hKn.sz
    refine x_next ⟨.inl (cx.pick2 1 3 rfl rfl rfl), ?_⟩
    refine x_one (i := 9) (by kernel_rfl) rfl ?_
    refine s_appendG (m := 1) cx ei33 Try.underlying30 rfl rfl rfl rfl rfl (cx.row 0 rfl) hm24.len hm24.one (by omega) ?_; intro v26 w cx hgr26 hnw26
    replace hKn := hKn.resOwn hA hgr26 rfl (fun q hq => ⟨(Made_lt cxc.head q hq).1, (Made_lt cxc.head q hq).2⟩)
    replace hK := hK.daOwn hA hgr26 rfl (fun q hq => (Made_lt cxc.head q hq).1)
    refine x_next ⟨.inr (by kernel_rfl), ?_⟩
    refine x_one (i := 10) (by kernel_rfl) rfl ?_
    refine s_val rfl rfl (v_fa fa33_6 rfl hs3) ?_
    refine x_next ⟨.inr (by kernel_rfl), ?_⟩
    refine x_one (i := 11) (by kernel_rfl) rfl ?_
    refine s_store1G (v := v26) cx 1 rfl rfl rfl rfl rfl (own_one cx.head) rfl rfl rfl ?_; intro w cx hg3
    replace hK := hK.daId hA hg3 (by simp) (cx.lts b3 (by simp)).1
    replace hKn := hKn.grown hg3 (fun b hb e => by simp at e; subst e; have h3 := (cxc.lts _ (by simp : b3 ∈ _)); rcases hb with (hb | hb) | hb; (have := hA _ hb; omega); (exact hb.2.1 (by simp)); (have := hb.1; omega))
    refine x_next ⟨.inr (by kernel_rfl), ?_⟩
    refine x_done (by kernel_rfl) ?_
    refine wp_region_lit ?_
    refine s_val rfl rfl (v_move rfl hs4) ?_
    refine s_val rfl rfl (v_add rfl rfl rfl (by omega) (by omega)) ?_
    refine s_val rfl rfl (v_assign rfl rfl) ?_
    refine wpList_nil ?_
    refine ⟨gk5 - 1, _, by omega, rfl, i + 1, v26, rs ++ [r24], by omega, hs1, hs2, hs3, rfl, by simpa [vrow] using cx.drop 1, ?_⟩
    rw [List.take_succ_eq_append_getElem (by omega), List.map_append]
    refine RowsV.snoc _ _ (RowsV.mono ?_ hK.kp _ _ hrows) (RepV.mono ?_ hKn.kp _ _ hm24)
    · exact Da.step hK.sz hm0 hnw26
    · exact Da.res hA cxc.ext.size hs0 hKn.sz hcc (fun i hi => (cxc.lts i (by rcases (by simpa using hi : i = b1 ∨ i = b2 ∨ i = b3) with rfl | rfl | rfl <;> simp)).2) (fun q hq => (Made_lt cxc.head q hq).2) hm1 hnw26
  try simp only [bsl] at hc14
  refine wp_exit ?_
  refine wp_seq ?_
  refine wp_region_lit ?_
  have hi : i = v.list.length := by omega
  subst hi
  rw [List.take_of_length_le (Nat.le_refl _)] at hrows
  have hL0 := RepL.mono (Da.join (ids := [b1, b2, b3]) cx (by intro i hi; rcases (by simpa using hi : i = b1 ∨ i = b2 ∨ i = b3) with rfl | rfl | rfl <;> simp)) (fun _ _ => rfl) (lstA_of_row cx.head (by simp) hrows (fun _ _ => rfl))
  obtain ⟨x5, hx5⟩ : ∃ x5, x5 = x := ⟨_, rfl⟩
  subst hx5
  replace cx := (cx.dropR 1).nilRow 77 14
  refine s_val rfl rfl (v_fa fa33_7 rfl hs1) ?_
  refine s_val rfl rfl (v_load1 rfl rfl Try.underlying31 rfl (cx.cell 2 rfl rfl)) ?_
  have cxc := cx
  refine s_fn cx (c79 A v.fields _ _ (fun b hb => Nat.lt_of_lt_of_le (hA b hb) cx.ext.size) (RepF.mono (fun _ h => h) (fun b hb => cx.ext.block b (hA b hb)) hfs) hself.2.2.2.2) Try.func79 rfl rfl rfl rfl rfl rfl ?_; intro q30 w cx hw30 hp30
  obtain ⟨rs30, hrow30, hrs30⟩ := hp30
  have hK := (Kp.da (A := A) (v := .slice none 0 0) hA cxc.ext.size [b1, b2, b3] ).below hw30
  have hF0 : RepF (Da A w0 w [b1, b2, b3] (.slice none 0 0)) w q30 (sortF v.fields) := by
    refine RepF.mono ?_ (fun _ _ => rfl) (fld_of_row hrow30 rfl hrs30 (fun _ _ => rfl))
    rintro b (hb | hb)
    · exact .inl hb
    · have h1 := Made_lt hrow30 b hb
      exact .inr ⟨⟨Nat.le_trans cxc.ext.size h1.1, h1.2⟩, fun hm => by have := (fun i hi => (cxc.lts i (by rcases (by simpa using hi : i = b1 ∨ i = b2 ∨ i = b3) with rfl | rfl | rfl <;> simp)).2) b hm; omega, by simp [Value.ownBlock]⟩
  obtain ⟨_, _, hsl30, _⟩ := id hF0
  obtain ⟨qa, qc, hqe, _⟩ := hsl30.form
  replace hL0 := RepL.mono (Da.step (A := A) (w0 := w0) (ids := [b1, b2, b3]) (v := .slice none 0 0) (v' := .slice none 0 0) hK.sz (Nat.le_refl _) (fun q hq => .inl hq)) hK.kp hL0
  refine s_val rfl rfl (v_assign rfl rfl) ?_
  refine wpList_nil ?_
  refine wp_seq ?_
  refine wp_seq ?_
  refine wp_region_lit ?_
  refine s_val rfl rfl (v_assign rfl rfl) ?_
  refine wpList_nil ?_
  refine wp_block ?_
  refine w_loop (fun k f w1 => ∃ (i : Nat) (x : Value) (rs : Els), k + i = (sortF v.fields).length ∧ f 1 = .pointer (some ⟨b1, 0, none⟩) ∧ f 2 = .pointer (some ⟨b2, 0, none⟩) ∧ f 3 = .pointer (some ⟨b3, 0, none⟩) ∧ f 5 = q30 ∧ f 6 = .int .i64 i ∧ Cxr w0 w1 [(b3, .cells (vrow v.sc bs x5 x).toArray 33), (b2, .cells ([.int .i64 0, .bool false, .bool false, .string ByteArray.empty, .int .i64 0, .int .i64 0, .int .i64 0, .int .i64 0, .int .i64 0, .string ByteArray.empty, .slice none 0 0, .slice none 0 0, .slice none 0 0] : List Value).toArray 33), (b1, .cells (vrow v.sc bs (.slice la v.list.length lc) (.slice fa v.fields.length fc)).toArray 33)] [⟨77, 14, x, i, rs.flatten⟩] ∧ RepL (Da A w0 w1 [b1, b2, b3] x) w1 x5 (v.list.map canon) ∧ RepF (Da A w0 w1 [b1, b2, b3] x) w1 q30 (sortF v.fields) ∧ RowsF (Da A w0 w1 [b1, b2, b3] x) w1 (((sortF v.fields).take i).map fun kv => (kv.1, canon kv.2)) rs) ((sortF v.fields).length) ?_ ?_
  · skip
    exact ⟨0, _, [], by omega, hs1, hs2, hs3, rfl, rfl, cx, hL0, hF0, trivial⟩
  intro gk10 f w hJ
  obtain ⟨i, x, rs, hk, hs1, hs2, hs3, hs5, hs6, cx, hL, hF, hrows⟩ := hJ
  refine wp_seq ?_
  refine wp_seq ?_
  refine wp_region_lit ?_
  refine s_val rfl rfl (v_move rfl hs6) ?_
  refine s_val rfl rfl (v_move rfl hs5) ?_
  refine s_val rfl rfl (v_lenSlice rfl hqe Try.underlying31) ?_
  refine s_val rfl rfl (v_cmp rfl rfl rfl rfl) ?_
  refine wpList_nil ?_
  refine c_split rfl (fun hc34 => ?_) (fun hc34 => ?_)
  · skip
    try simp only [bsl] at hc34
    have hge : (sortF v.fields)[i]? = some (sortF v.fields)[i] := List.getElem?_eq_getElem (by omega)
    have hmemF : (sortF v.fields)[i] ∈ v.fields := sortF_mem.1 (List.getElem_mem _)
    have hK := Kp.da hA cx.ext.size [b1, b2, b3] x
    obtain ⟨wk, rfl⟩ : ∃ y, y = w := ⟨_, rfl⟩
    have hk0 := cx.ext.size
    obtain ⟨fqb, fqo, hfql, hfqr⟩ := id hF
    obtain ⟨fqa, fqc, hfqe, hfqa⟩ := hfql.form
    have hfqa' := hfqa (by omega)
    subst hfqa'
    have hfqA := hfql.inA (by omega)
    obtain ⟨r, hr, hrv⟩ := RepFs.get _ fqo i _ hfqr hge
    obtain ⟨ebs, els, efs, rfl, _⟩ := hrv.open
    refine wp_skip ?_
    refine wp_seq ?_
    refine wp_block ?_
    refine w_ord cx (cx.pick1 0 rfl) mixed [(0, 37), (1, 38), (2, 39), (3, 40), (4, 41), (5, 42), (7, 44), (8, 45), (9, 46), (10, 47)] #[true, true, true, true, true, true, false, true, true, true, true, false, false, false, false, false, false, false] (by kernel_rfl) (by kernel_rfl) (by kernel_rfl) (by kernel_rfl) ?_
    refine pu_one rfl (wnt_none rfl) (fun w cx => v_fa fa33_7 rfl hs3) ?_
    refine pu_one rfl (wnt_none rfl) (fun w cx => v_load1 rfl rfl Try.underlying31 rfl (cx.cell 0 rfl rfl)) ?_
    refine pu_one rfl (wnt_none rfl) (fun w cx => v_move rfl hs5) ?_
    refine pu_one rfl (wnt_none rfl) (fun w cx => v_move rfl hs6) ?_
    refine pu_one rfl (wnt_none rfl) (fun w cx => v_ia Try.underlying31 sz77 rfl hfqe rfl (by omega) (by omega)) ?_
    refine pu_one rfl (wnt_none rfl) (fun w cx => v_fa fa77_0 rfl rfl) ?_
    refine pu_one rfl (wnt_none rfl) (fun w cx => v_move rfl hs5) ?_
    refine pu_one rfl (wnt_none rfl) (fun w cx => v_move rfl hs6) ?_
    refine pu_one rfl (wnt_none rfl) (fun w cx => v_ia Try.underlying31 sz77 rfl hfqe rfl (by omega) (by omega)) ?_
    refine pu_one rfl (wnt_none rfl) (fun w cx => v_fa fa77_1 rfl rfl) ?_
    refine pu_nil ?_; intro w cx hwD12
    replace hK := hK.below hwD12
    refine x_two (i := 6) (j := 11) (by kernel_rfl) rfl rfl ?_ ?_
    · skip
      refine s_val rfl rfl (v_load1 rfl rfl Try.underlying9 rfl ((hr.keep (hK.kp _ hfqA)).cell 0 rfl)) ?_
      refine x_next ⟨.inl (cx.pick1 0 rfl), ?_⟩
      refine x_one (i := 11) (by kernel_rfl) rfl ?_
      refine s_val rfl rfl (v_load rfl rfl Try.underlying33 rfl sz33 ((hr.keep (hK.kp _ hfqA)).rv 1 rfl) rfl) ?_
      refine x_next ⟨.inl (cx.pick1 0 rfl), ?_⟩
      refine x_one (i := 12) (by kernel_rfl) rfl ?_
      have cxc := cx
      refine s_fn cx (ihf _ hmemF _ (Da A w0 wk [b1, b2, b3] x) _ (hfin.field hmemF).2 (fun b hb => Nat.lt_of_lt_of_le (Da.lt hA hk0 b hb) hK.sz) (RepV.mono (fun _ h => h) hK.kp _ _ hrv)) Try.func56 rfl rfl rfl rfl rfl rfl ?_; intro q49 w cx hw49 hp49
      obtain ⟨r49, rfl, hm49⟩ := hp49
      have hKn := Kp.res (ids := [b1, b2, b3]) (v := x) hA hk0 hK.sz hw49
      have hs0 := hK.sz
      have hcc := hw49.size
      replace hK := hK.below hw49
      obtain ⟨nbs, nls, nfs, rfl, _⟩ := hm49.open
      refine x_next ⟨.inl (cx.pick1 0 rfl), ?_⟩
      refine x_one (i := 13) (by kernel_rfl) rfl ?_
      refine s_val rfl rfl (v_build (bd77 _ _ _ _ _) rfl rfl) ?_
      refine x_next ⟨.inl (cx.pick1 0 rfl), ?_⟩
      refine x_one (i := 14) (by kernel_rfl) rfl ?_
      refine s_bsl1 cx Try.underlying31 sz77 z77 rfl rfl rfl rfl rfl rfl rfl rfl ?_; intro b51 w cx hb51 hw51
      replace hK := hK.below hw51
      replace hKn := hKn.below hw51
      have hm0 := hK.sz
      have hm1 := hKn.sz
      refine x_next ⟨.inl (cx.pick1 1 rfl), ?_⟩
      refine x_one (i := 15) (by kernel_rfl) rfl ?_
      refine s_appendG (m := 1) cx ei77 Try.underlying31 rfl rfl rfl rfl rfl (cx.row 0 rfl) rfl (by exact hm49.one) (by omega) ?_; intro v52 w cx hgr52 hnw52
      replace hKn := hKn.resOwn hA hgr52 rfl (fun q hq => ⟨(Made_lt cxc.head q hq).1, (Made_lt cxc.head q hq).2⟩)
      replace hK := hK.daOwn hA hgr52 rfl (fun q hq => (Made_lt cxc.head q hq).1)
      refine x_next ⟨.inr (by kernel_rfl), ?_⟩
      refine x_one (i := 16) (by kernel_rfl) rfl ?_
      refine s_val rfl rfl (v_fa fa33_7 rfl hs3) ?_
      refine x_next ⟨.inr (by kernel_rfl), ?_⟩
      refine x_one (i := 17) (by kernel_rfl) rfl ?_
      refine s_store1G (v := v52) cx 1 rfl rfl rfl rfl rfl (own_one cx.head) rfl rfl rfl ?_; intro w cx hg3
      replace hK := hK.daId hA hg3 (by simp) (cx.lts b3 (by simp)).1
      replace hKn := hKn.grown hg3 (fun b hb e => by simp at e; subst e; have h3 := (cxc.lts _ (by simp : b3 ∈ _)); rcases hb with (hb | hb) | hb; (have := hA _ hb; omega); (exact hb.2.1 (by simp)); (have := hb.1; omega))
      refine x_next ⟨.inr (by kernel_rfl), ?_⟩
      refine x_done (by kernel_rfl) ?_
      refine wp_region_lit ?_
      refine s_val rfl rfl (v_move rfl hs6) ?_
      refine s_val rfl rfl (v_add rfl rfl rfl (by omega) (by omega)) ?_
      refine s_val rfl rfl (v_assign rfl rfl) ?_
      refine wpList_nil ?_
      have hst := Da.step (A := A) (w0 := w0) (ids := [b1, b2, b3]) hK.sz hm0 hnw52
      refine ⟨gk10 - 1, _, by omega, rfl, i + 1, v52, rs ++ [.string (sortF v.fields)[i].1 :: vrow (canon (sortF v.fields)[i].2).sc nbs nls nfs], by omega, hs1, hs2, hs3, hs5, rfl, by simpa [vrow] using cx.drop 1, RepL.mono hst hK.kp hL, RepF.mono hst hK.kp hF, ?_⟩
      rw [List.take_succ_eq_append_getElem (by omega), List.map_append]
      refine RowsF.snoc _ _ (RowsF.mono hst hK.kp _ _ hrows) (RepV.mono ?_ hKn.kp _ _ hm49)
      exact Da.res hA cxc.ext.size hs0 hKn.sz hcc (fun i hi => (cxc.lts i (by rcases (by simpa using hi : i = b1 ∨ i = b2 ∨ i = b3) with rfl | rfl | rfl <;> simp)).2) (fun q hq => (Made_lt cxc.head q hq).2) hm1 hnw52
    refine s_val rfl rfl (v_load rfl rfl Try.underlying33 rfl sz33 ((hr.keep (hK.kp _ hfqA)).rv 1 rfl) rfl) ?_
    refine x_next ⟨.inl (cx.pick1 0 rfl), ?_⟩
    refine x_two (i := 6) (j := 12) (by kernel_rfl) rfl rfl ?_ ?_
    · skip
      refine s_val rfl rfl (v_load1 rfl rfl Try.underlying9 rfl ((hr.keep (hK.kp _ hfqA)).cell 0 rfl)) ?_
      refine x_next ⟨.inl (cx.pick1 0 rfl), ?_⟩
      refine x_one (i := 12) (by kernel_rfl) rfl ?_
      have cxc := cx
      refine s_fn cx (ihf _ hmemF _ (Da A w0 wk [b1, b2, b3] x) _ (hfin.field hmemF).2 (fun b hb => Nat.lt_of_lt_of_le (Da.lt hA hk0 b hb) hK.sz) (RepV.mono (fun _ h => h) hK.kp _ _ hrv)) Try.func56 rfl rfl rfl rfl rfl rfl ?_; intro q49 w cx hw49 hp49
      obtain ⟨r49, rfl, hm49⟩ := hp49
      have hKn := Kp.res (ids := [b1, b2, b3]) (v := x) hA hk0 hK.sz hw49
      have hs0 := hK.sz
      have hcc := hw49.size
      replace hK := hK.below hw49
      obtain ⟨nbs, nls, nfs, rfl, _⟩ := hm49.open
      refine x_next ⟨.inl (cx.pick1 0 rfl), ?_⟩
      refine x_one (i := 13) (by kernel_rfl) rfl ?_
      refine s_val rfl rfl (v_build (bd77 _ _ _ _ _) rfl rfl) ?_
      refine x_next ⟨.inl (cx.pick1 0 rfl), ?_⟩
      refine x_one (i := 14) (by kernel_rfl) rfl ?_
      refine s_bsl1 cx Try.underlying31 sz77 z77 rfl rfl rfl rfl rfl rfl rfl rfl ?_; intro b51 w cx hb51 hw51
      replace hK := hK.below hw51
      replace hKn := hKn.below hw51
      have hm0 := hK.sz
      have hm1 := hKn.sz
      refine x_next ⟨.inl (cx.pick1 1 rfl), ?_⟩
      refine x_one (i := 15) (by kernel_rfl) rfl ?_
      refine s_appendG (m := 1) cx ei77 Try.underlying31 rfl rfl rfl rfl rfl (cx.row 0 rfl) rfl (by exact hm49.one) (by omega) ?_; intro v52 w cx hgr52 hnw52
      replace hKn := hKn.resOwn hA hgr52 rfl (fun q hq => ⟨(Made_lt cxc.head q hq).1, (Made_lt cxc.head q hq).2⟩)
      replace hK := hK.daOwn hA hgr52 rfl (fun q hq => (Made_lt cxc.head q hq).1)
      refine x_next ⟨.inr (by kernel_rfl), ?_⟩
      refine x_one (i := 16) (by kernel_rfl) rfl ?_
      refine s_val rfl rfl (v_fa fa33_7 rfl hs3) ?_
      refine x_next ⟨.inr (by kernel_rfl), ?_⟩
      refine x_one (i := 17) (by kernel_rfl) rfl ?_
      refine s_store1G (v := v52) cx 1 rfl rfl rfl rfl rfl (own_one cx.head) rfl rfl rfl ?_; intro w cx hg3
      replace hK := hK.daId hA hg3 (by simp) (cx.lts b3 (by simp)).1
      replace hKn := hKn.grown hg3 (fun b hb e => by simp at e; subst e; have h3 := (cxc.lts _ (by simp : b3 ∈ _)); rcases hb with (hb | hb) | hb; (have := hA _ hb; omega); (exact hb.2.1 (by simp)); (have := hb.1; omega))
      refine x_next ⟨.inr (by kernel_rfl), ?_⟩
      refine x_done (by kernel_rfl) ?_
      refine wp_region_lit ?_
      refine s_val rfl rfl (v_move rfl hs6) ?_
      refine s_val rfl rfl (v_add rfl rfl rfl (by omega) (by omega)) ?_
      refine s_val rfl rfl (v_assign rfl rfl) ?_
      refine wpList_nil ?_
      have hst := Da.step (A := A) (w0 := w0) (ids := [b1, b2, b3]) hK.sz hm0 hnw52
      refine ⟨gk10 - 1, _, by omega, rfl, i + 1, v52, rs ++ [.string (sortF v.fields)[i].1 :: vrow (canon (sortF v.fields)[i].2).sc nbs nls nfs], by omega, hs1, hs2, hs3, hs5, rfl, by simpa [vrow] using cx.drop 1, RepL.mono hst hK.kp hL, RepF.mono hst hK.kp hF, ?_⟩
      rw [List.take_succ_eq_append_getElem (by omega), List.map_append]
      refine RowsF.snoc _ _ (RowsF.mono hst hK.kp _ _ hrows) (RepV.mono ?_ hKn.kp _ _ hm49)
      exact Da.res hA cxc.ext.size hs0 hKn.sz hcc (fun i hi => (cxc.lts i (by rcases (by simpa using hi : i = b1 ∨ i = b2 ∨ i = b3) with rfl | rfl | rfl <;> simp)).2) (fun q hq => (Made_lt cxc.head q hq).2) hm1 hnw52
    have cxc := cx
    refine s_fn cx (ihf _ hmemF _ (Da A w0 wk [b1, b2, b3] x) _ (hfin.field hmemF).2 (fun b hb => Nat.lt_of_lt_of_le (Da.lt hA hk0 b hb) hK.sz) (RepV.mono (fun _ h => h) hK.kp _ _ hrv)) Try.func56 rfl rfl rfl rfl rfl rfl ?_; intro q49 w cx hw49 hp49
    obtain ⟨r49, rfl, hm49⟩ := hp49
    have hKn := Kp.res (ids := [b1, b2, b3]) (v := x) hA hk0 hK.sz hw49
    have hs0 := hK.sz
    have hcc := hw49.size
    replace hK := hK.below hw49
    obtain ⟨nbs, nls, nfs, rfl, _⟩ := hm49.open
    refine x_next ⟨.inl (cx.pick1 0 rfl), ?_⟩
    refine x_one (i := 6) (by kernel_rfl) rfl ?_
    refine s_val rfl rfl (v_load1 rfl rfl Try.underlying9 rfl ((hr.keep (hK.kp _ hfqA)).cell 0 rfl)) ?_
    refine x_next ⟨.inl (cx.pick1 0 rfl), ?_⟩
    refine x_one (i := 13) (by kernel_rfl) rfl ?_
    refine s_val rfl rfl (v_build (bd77 _ _ _ _ _) rfl rfl) ?_
    refine x_next ⟨.inl (cx.pick1 0 rfl), ?_⟩
    refine x_one (i := 14) (by kernel_rfl) rfl ?_
    refine s_bsl1 cx Try.underlying31 sz77 z77 rfl rfl rfl rfl rfl rfl rfl rfl ?_; intro b51 w cx hb51 hw51
    replace hK := hK.below hw51
    replace hKn := hKn.below hw51
    have hm0 := hK.sz
    have hm1 := hKn.sz
    refine x_next ⟨.inl (cx.pick1 1 rfl), ?_⟩
    refine x_one (i := 15) (by kernel_rfl) rfl ?_
    refine s_appendG (m := 1) cx ei77 Try.underlying31 rfl rfl rfl rfl rfl (cx.row 0 rfl) rfl (by exact hm49.one) (by omega) ?_; intro v52 w cx hgr52 hnw52
    replace hKn := hKn.resOwn hA hgr52 rfl (fun q hq => ⟨(Made_lt cxc.head q hq).1, (Made_lt cxc.head q hq).2⟩)
    replace hK := hK.daOwn hA hgr52 rfl (fun q hq => (Made_lt cxc.head q hq).1)
    refine x_next ⟨.inr (by kernel_rfl), ?_⟩
    refine x_one (i := 16) (by kernel_rfl) rfl ?_
    refine s_val rfl rfl (v_fa fa33_7 rfl hs3) ?_
    refine x_next ⟨.inr (by kernel_rfl), ?_⟩
    refine x_one (i := 17) (by kernel_rfl) rfl ?_
    refine s_store1G (v := v52) cx 1 rfl rfl rfl rfl rfl (own_one cx.head) rfl rfl rfl ?_; intro w cx hg3
    replace hK := hK.daId hA hg3 (by simp) (cx.lts b3 (by simp)).1
    replace hKn := hKn.grown hg3 (fun b hb e => by simp at e; subst e; have h3 := (cxc.lts _ (by simp : b3 ∈ _)); rcases hb with (hb | hb) | hb; (have := hA _ hb; omega); (exact hb.2.1 (by simp)); (have := hb.1; omega))
    refine x_next ⟨.inr (by kernel_rfl), ?_⟩
    refine x_done (by kernel_rfl) ?_
    refine wp_region_lit ?_
    refine s_val rfl rfl (v_move rfl hs6) ?_
    refine s_val rfl rfl (v_add rfl rfl rfl (by omega) (by omega)) ?_
    refine s_val rfl rfl (v_assign rfl rfl) ?_
    refine wpList_nil ?_
    have hst := Da.step (A := A) (w0 := w0) (ids := [b1, b2, b3]) hK.sz hm0 hnw52
    refine ⟨gk10 - 1, _, by omega, rfl, i + 1, v52, rs ++ [.string (sortF v.fields)[i].1 :: vrow (canon (sortF v.fields)[i].2).sc nbs nls nfs], by omega, hs1, hs2, hs3, hs5, rfl, by simpa [vrow] using cx.drop 1, RepL.mono hst hK.kp hL, RepF.mono hst hK.kp hF, ?_⟩
    rw [List.take_succ_eq_append_getElem (by omega), List.map_append]
    refine RowsF.snoc _ _ (RowsF.mono hst hK.kp _ _ hrows) (RepV.mono ?_ hKn.kp _ _ hm49)
    exact Da.res hA cxc.ext.size hs0 hKn.sz hcc (fun i hi => (cxc.lts i (by rcases (by simpa using hi : i = b1 ∨ i = b2 ∨ i = b3) with rfl | rfl | rfl <;> simp)).2) (fun q hq => (Made_lt cxc.head q hq).2) hm1 hnw52
  try simp only [bsl] at hc34
  have hK := Kp.da hA cx.ext.size [b1, b2, b3] x
  obtain ⟨wk, rfl⟩ : ∃ y, y = w := ⟨_, rfl⟩
  have hi : i = (sortF v.fields).length := by omega
  subst hi
  rw [List.take_of_length_le (Nat.le_refl _)] at hrows
  refine wp_exit ?_
  refine wp_seq ?_
  refine wp_region_lit ?_
  refine s_val rfl rfl (v_load rfl hs3 Try.underlying33 rfl sz33 (l := vrow v.sc bs x5 x) (cx.row 0 rfl) rfl) ?_
  refine s_storeAllG cx 1 rfl rfl rfl hs2 rfl rfl sz33 rfl (vrow_one hbs.one hL.one (own_one cx.head)) ?_; intro w cx hg2
  replace hK := hK.daId hA hg2 (by simp) (cx.lts b2 (by simp)).1
  refine wpList_nil ?_
  refine wp_ret ?_
  refine ret_cell Try.results56 hs2 (cx.at 1 rfl) Try.underlying33 rfl sz33 ⟨cx.ext, _, rfl, ?_⟩
  rw [canon_eq]
  refine RepV.mk (v := .mk v.sc v.bytes (v.list.map canon) ((sortF v.fields).map fun kv => (kv.1, canon kv.2))) ?_ ?_ ?_
  · exact RepB.mono (fun b hb => .inl hb) (fun b hb => cx.ext.block b (hA b hb)) hbs
  · exact RepL.mono (Da.fin hK.sz) hK.kp hL
  · have hfw := fld_of_row cx.head (by simp) (RowsF.mono (fun _ h => h) hK.kp _ _ hrows) (fun _ _ => rfl)
    refine RepF.mono ?_ (fun _ _ => rfl) hfw
    rintro b (hb | hb)
    · exact Da.fin hK.sz b hb
    · exact .inr (Made_lt cx.head b hb)
theorem szd_canon (N : Nat) : ∀ (d : Nat) (v : V), szd N d v → szd N d (canon v)
  | 0, _, _ => trivial
  | d + 1, v, h => by
    obtain ⟨h1, h2, h3, h4, h5, h6, h7⟩ := h
    rw [canon_eq]
    refine ⟨h1, h2, h3, by simpa [V.list] using h4, by simpa [V.fields, sortF_length] using h5, fun x hx => ?_, fun kv hk => ?_⟩
    · obtain ⟨y, hy, rfl⟩ := List.mem_map.1 hx
      exact szd_canon N d y (h6 y hy)
    · obtain ⟨y, hy, rfl⟩ := List.mem_map.1 hk
      exact ⟨(h7 y (sortF_mem.1 hy)).1, szd_canon N d y.2 (h7 y (sortF_mem.1 hy)).2⟩
theorem fine_canon {v : V} (h : Fine v) : Fine (canon v) := fun d => szd_canon 1048576 d v (h d)
set_option maxRecDepth 10000 in
theorem c27 (x y : V) (r r' : List Value) (w0 : World) (hf : Fine x) (hf2 : Fine y) (hx : Val w0 x r) (hy : Val w0 y r') : Fc Try.prog 27 [.agg r.toArray, .agg r'.toArray] w0 (IsB fun b => b = true ↔ canon x = canon y) := by
  refine ret_enter Try.func27 rfl Try.ntmps27 rfl ?_
  have cx := Ctx.start w0
  refine wp_seq ?_
  refine wp_region_lit ?_
  refine s_box cx rfl rfl rfl rfl rfl ?_; intro b2 w cx hb2 hw2
  refine s_box cx rfl rfl rfl rfl rfl ?_; intro b3 w cx hb3 hw3
  refine s_val rfl rfl (v_assign rfl rfl) ?_
  refine wpList_nil ?_
  refine wp_seq ?_
  refine w_ord cx (cx.pick2 1 0 rfl rfl rfl) mixed [(0, 5), (2, 7)] #[true, false, true, false, false, false] (by kernel_rfl) (by kernel_rfl) (by kernel_rfl) (by kernel_rfl) ?_
  refine pu_one rfl (wnt_none rfl) (fun w cx => v_load rfl rfl Try.underlying33 rfl sz33 (cx.row 0 rfl) hx.len) ?_
  refine pu_one rfl (wnt_none rfl) (fun w cx => v_load rfl rfl Try.underlying33 rfl sz33 (cx.row 1 rfl) hy.len) ?_
  refine pu_nil ?_; intro w cx hwD1
  refine x_one (i := 1) (by kernel_rfl) rfl ?_
  refine s_fn cx (c56 x _ (fun b => b < w0.heap.size) _ hf (fun b hb => Nat.lt_of_lt_of_le hb cx.ext.size) (RepV.mono (fun _ h => h) (fun b hb => cx.ext.block b hb) _ _ hx)) Try.func56 rfl rfl rfl rfl rfl rfl ?_; intro q6 w cx hw6 hp6
  obtain ⟨r6, rfl, hm6⟩ := hp6
  have hv6 : Val w (canon x) r6 := RepV.mono (fun b hb => hb.elim (fun h => Nat.lt_of_lt_of_le h cx.ext.size) (fun h => h.2)) (fun _ _ => rfl) _ _ hm6
  refine x_next ⟨.inl (cx.pick2 1 0 rfl rfl rfl), ?_⟩
  refine x_one (i := 3) (by kernel_rfl) rfl ?_
  refine s_fn cx (c56 y _ (fun b => b < w0.heap.size) _ hf2 (fun b hb => Nat.lt_of_lt_of_le hb cx.ext.size) (RepV.mono (fun _ h => h) (fun b hb => cx.ext.block b hb) _ _ hy)) Try.func56 rfl rfl rfl rfl rfl rfl ?_; intro q8 w cx hw8 hp8
  obtain ⟨r8, rfl, hm8⟩ := hp8
  have hv8 : Val w (canon y) r8 := RepV.mono (fun b hb => hb.elim (fun h => Nat.lt_of_lt_of_le h cx.ext.size) (fun h => h.2)) (fun _ _ => rfl) _ _ hm8
  replace hv6 := hv6.up hw8
  refine x_next ⟨.inr (by kernel_rfl), ?_⟩
  refine x_one (i := 4) (by kernel_rfl) rfl ?_
  refine s_fnB cx (c22g _ _ _ _ _ hv6 hv8 (fine_canon hf) (fine_canon hf2)) Try.func22 rfl rfl rfl rfl rfl rfl ?_; intro q9 w cx hw9 hp9
  refine x_next ⟨.inr (by kernel_rfl), ?_⟩
  refine x_one (i := 5) (by kernel_rfl) rfl ?_
  refine s_val rfl rfl (v_assign rfl rfl) ?_
  refine x_next ⟨.inr (by kernel_rfl), ?_⟩
  refine x_done (by kernel_rfl) ?_
  refine wp_ret ?_
  refine ret_tmp Try.results27 rfl ?_
  exact ⟨cx.ext, _, rfl, hp9⟩
end Go.Proofs.Ytmkihcdcgkdilaa
end
section
set_option linter.unusedVariables false
set_option linter.unusedSimpArgs false
namespace Go.Dk
open Go Go.RowKit
def dlG (af bf : Fs) : Fs := (af.filter fun kv => !(hasF kv.1 bf).isSome).map fun kv => (kv.1, nulV)
def dlStep (E : V → V → Bool) (dl : V → V → Option V) (af : Fs) (o : Option Fs) (kv : ByteArray × V) : Option Fs :=
  match o with
  | none => none
  | some l => if (hasF kv.1 af).any (fun old => E old kv.2) then some l else
    match dl ((hasF kv.1 af).getD nulV) kv.2 with
    | none => none
    | some x => if kv.2.sc.kind = 0 then none else some (l ++ [(kv.1, x)])
def dl (E : V → V → Bool) : Nat → V → V → Option V
  | 0, _, _ => none
  | d + 1, a, b => if b.sc.kind = 7 then (b.fields.foldl (dlStep E (dl E d) a.fields) (some (dlG a.fields b.fields))).map mapV else some b
theorem okd_mono : ∀ (d k : Nat) (v : V), okd d v → d ≤ k → okd k v
  | 0, _, _, h, _ => h.elim
  | _ + 1, 0, _, _, h => by omega
  | d + 1, k + 1, v, h, hk => ⟨h.1, h.2.1, fun x hx => okd_mono d k x (h.2.2.1 x hx) (by omega), fun x hx => okd_mono d k x.2 (h.2.2.2 x hx) (by omega)⟩
theorem fine_nul : Fine nulV := (gd_nul 0 0).fine
end Go.Dk
end
section
set_option linter.unusedVariables false
set_option linter.unusedSimpArgs false
namespace Go.Dk
open Go Go.RowKit
def PthA (A : Nat → Prop) (w : World) (s : Value) (l : List Stp) : Prop := ∃ b o, SliceAt A s l.length b o ∧ ∀ i x, l[i]? = some x → RowAt w b (o + i * 3) (srow x)
theorem PthA.mono {A A' : Nat → Prop} {w w' : World} (hA : ∀ b, A b → A' b) (hk : Keeps A w w') {s : Value} {l : List Stp} (h : PthA A w s l) : PthA A' w' s l := by
  obtain ⟨b, o, hs, hr⟩ := h
  refine ⟨b, o, hs.mono hA, fun i x hx => ?_⟩
  exact (hr i x hx).keep (hk b (hs.inA (by have := (List.getElem?_eq_some_iff.1 hx).1; omega)))
theorem PthA.nil {A : Nat → Prop} {w : World} : PthA A w (.slice none 0 0) [] := ⟨0, 0, .inl ⟨rfl, rfl⟩, fun i x h => by simp at h⟩
theorem PthA.one {A : Nat → Prop} {w : World} {s : Value} {l : List Stp} (h : PthA A w s l) : s.oneCell' = true := by
  obtain ⟨_, _, hs, _⟩ := h
  obtain ⟨_, _, rfl, _⟩ := hs.form
  rfl
theorem flatS_length (l : List Stp) : (l.flatMap srow).length = l.length * 3 := by
  induction l with
  | nil => rfl
  | cons x l ih => rw [List.flatMap_cons, List.length_append, ih, List.length_cons]; show 3 + _ = _; omega
theorem flatS_one (l : List Stp) : (l.flatMap srow).all (·.oneCell') = true := by
  induction l with
  | nil => rfl
  | cons x l ih => rw [List.flatMap_cons, List.all_append, ih]; rfl
theorem rowS {w : World} {b : Nat} : ∀ (l : List Stp) (o : Nat), (∀ i x, l[i]? = some x → RowAt w b (o + i * 3) (srow x)) → RowAt w b o (l.flatMap srow)
  | [], o, _ => fun j x h => by simp at h
  | s :: l, o, h => by
    intro j x hj
    rw [List.flatMap_cons] at hj
    rcases Nat.lt_or_ge j 3 with hlt | hge
    · rw [List.getElem?_append_left (by exact hlt)] at hj
      have := h 0 s rfl j x hj
      simpa using this
    · rw [List.getElem?_append_right (by exact hge)] at hj
      have := rowS l (o + 3) (fun i y hy => by have := h (i + 1) y (by simpa using hy); rwa [show o + (i + 1) * 3 = o + 3 + i * 3 by omega] at this) (j - 3) x hj
      rwa [show o + 3 + (j - 3) = o + j by omega] at this
theorem rowS' {w : World} {b : Nat} : ∀ (l : List Stp) (o : Nat), RowAt w b o (l.flatMap srow) → ∀ i x, l[i]? = some x → RowAt w b (o + i * 3) (srow x)
  | [], o, _, i, x, h => by simp at h
  | s :: l, o, h, 0, x, hx => by
    obtain rfl : s = x := by simpa using hx
    intro j y hj
    have := h j y (by rw [List.flatMap_cons, List.getElem?_append_left (List.getElem?_eq_some_iff.1 hj).1]; exact hj)
    simpa using this
  | s :: l, o, h, i + 1, x, hx => by
    have h2 : RowAt w b (o + 3) (l.flatMap srow) := fun j y hj => by
      have := h (3 + j) y (by rw [List.flatMap_cons, List.getElem?_append_right (by show 3 ≤ _; omega)]; show (l.flatMap srow)[3 + j - 3]? = _; rw [Nat.add_sub_cancel_left]; exact hj)
      rwa [← Nat.add_assoc] at this
    have := rowS' l (o + 3) h2 i x (by simpa using hx)
    rwa [show o + (i + 1) * 3 = o + 3 + i * 3 by omega]
theorem src_path {A : Nat → Prop} {w : World} {s : Value} {l : List Stp} (h : PthA A w s l) : Src w s l.length (l.flatMap srow) := by
  obtain ⟨b, o, hs, hr⟩ := h
  have hrow := rowS l o hr
  rcases hs with ⟨h0, e⟩ | ⟨ad, c, e, _, ha⟩
  · have : l = [] := List.eq_nil_of_length_eq_zero h0
    subst this
    exact .inl ⟨e, rfl, rfl⟩
  · refine .inr ⟨ad, c, e, fun j u hj => ?_⟩
    have h0 : 0 < l.length := by
      have := (List.getElem?_eq_some_iff.1 hj).1
      rw [flatS_length] at this; omega
    obtain ⟨rfl, _⟩ := ha h0
    rw [add_addr]
    exact hrow j u hj
theorem path_of_row {B : Nat} {w : World} {v : Value} {n e : Nat} {l : List Stp} (row : w.ownsRow B e 3 v n (l.flatMap srow)) (hn : n = l.length) : PthA (fun b => v.ownBlock = some b) w v l := by
  subst hn
  rcases row.2 with ⟨rfl, h0⟩ | ⟨g, cap, cur, rfl, hb, hg, hle, _, hcs, htake⟩
  · have : l = [] := List.eq_nil_of_length_eq_zero h0
    subst this
    exact PthA.nil
  · refine ⟨g, 0, .inr ⟨_, cap, rfl, hle, fun _ => ⟨rfl, rfl⟩⟩, ?_⟩
    have hrow : RowAt w g 0 (l.flatMap srow) := by
      intro j x hj
      rw [cell_of_row w g (0 + j) cur _ _ hg]
      rw [← htake] at hj
      rw [List.getElem?_take] at hj
      split at hj
      · simpa using hj
      · cases hj
    exact rowS' l 0 hrow
def PthsC (A : Nat → Prop) (w : World) : List (List Stp) → List Value → Prop
  | [], [] => True
  | p :: ps, c :: cs => PthA A w c p ∧ PthsC A w ps cs
  | _, _ => False
theorem PthsC.mono {A A' : Nat → Prop} {w w' : World} (hA : ∀ b, A b → A' b) (hk : Keeps A w w') : ∀ (ps : List (List Stp)) (cs : List Value), PthsC A w ps cs → PthsC A' w' ps cs
  | [], [], _ => trivial
  | _ :: ps, _ :: cs, h => ⟨h.1.mono hA hk, PthsC.mono hA hk ps cs h.2⟩
  | [], _ :: _, h => h.elim
  | _ :: _, [], h => h.elim
theorem PthsC.append {A : Nat → Prop} {w : World} : ∀ (ps ps' : List (List Stp)) (cs cs' : List Value), PthsC A w ps cs → PthsC A w ps' cs' → PthsC A w (ps ++ ps') (cs ++ cs')
  | [], ps', [], cs', _, h => h
  | _ :: ps, ps', _ :: cs, cs', h, h' => ⟨h.1, PthsC.append ps ps' cs cs' h.2 h'⟩
  | [], _, _ :: _, _, h, _ => h.elim
  | _ :: _, _, [], _, h, _ => h.elim
theorem PthsC.len {A : Nat → Prop} {w : World} : ∀ (ps : List (List Stp)) (cs : List Value), PthsC A w ps cs → cs.length = ps.length ∧ cs.all (·.oneCell') = true
  | [], [], _ => ⟨rfl, rfl⟩
  | _ :: ps, _ :: cs, h => by
    have := PthsC.len ps cs h.2
    exact ⟨by simp [this.1], by rw [List.all_cons, h.1.one, this.2]; rfl⟩
  | [], _ :: _, h => h.elim
  | _ :: _, [], h => h.elim
theorem PthsC.at {A : Nat → Prop} {w : World} : ∀ (ps : List (List Stp)) (cs : List Value) (i : Nat) (p : List Stp), PthsC A w ps cs → ps[i]? = some p → ∃ c, cs[i]? = some c ∧ PthA A w c p
  | [], [], i, p, _, h => by simp at h
  | q :: ps, c :: cs, 0, p, h, hp => by
    obtain rfl : q = p := by simpa using hp
    exact ⟨c, rfl, h.1⟩
  | q :: ps, c :: cs, i + 1, p, h, hp => by
    obtain ⟨c', h1, h2⟩ := PthsC.at ps cs i p h.2 (by simpa using hp)
    exact ⟨c', by simpa using h1, h2⟩
  | [], _ :: _, _, _, h, _ => h.elim
  | _ :: _, [], _, _, h, _ => h.elim
/-! ### where two values differ -/
def keyS (k : ByteArray) : Stp := ⟨false, k, 0⟩
def idxS (i : Nat) : Stp := ⟨true, ByteArray.empty, i⟩
def alike (a b : V) : Bool := a.sc.kind == 7 && b.sc.kind == 7 && (a.fields.length : Int) == (b.fields.length : Int) && a.fields.all fun kv => (hasF kv.1 b.fields).isSome
def lalike (a b : V) : Bool := a.sc.kind == 6 && b.sc.kind == 6 && (a.list.length : Int) == (b.list.length : Int)
def dfr (E : V → V → Bool) : Nat → List Stp → V → V → List (List Stp)
  | 0, _, _, _ => []
  | d + 1, p, a, b => if E a b then [] else
    if alike a b then a.fields.flatMap fun kv => dfr E d (p ++ [keyS kv.1]) kv.2 ((hasF kv.1 b.fields).getD nulV)
    else if lalike a b then (List.range a.list.length).flatMap fun i => dfr E d (p ++ [idxS i]) (a.list.getD i nulV) (b.list.getD i nulV)
    else [p]
theorem dfr_len {E : V → V → Bool} : ∀ (d : Nat) (p : List Stp) (a b : V), (dfr E d p a b).length ≤ tsz d a
  | 0, _, _, _ => by simp [dfr]
  | d + 1, p, a, b => by
    have key : ∀ {α : Type} (L : List α) (g : α → List (List Stp)) (h : α → Nat), (∀ x, (g x).length ≤ h x) → (L.flatMap g).length ≤ (L.map h).sum := by
      intro α L g h hh
      induction L with
      | nil => simp
      | cons x L ih => rw [List.flatMap_cons, List.length_append, List.map_cons, List.sum_cons]; have := hh x; omega
    unfold dfr
    simp only [tsz]
    split
    · simp
    · split
      · have := key a.fields (fun kv => dfr E d (p ++ [keyS kv.1]) kv.2 ((hasF kv.1 b.fields).getD nulV)) (fun kv => tsz d kv.2) fun kv => dfr_len d _ _ _
        omega
      · split
        · have := key (List.range a.list.length) (fun i => dfr E d (p ++ [idxS i]) (a.list.getD i nulV) (b.list.getD i nulV)) (fun i => tsz d (a.list.getD i nulV)) fun i => dfr_len d _ _ _
          have e : (List.range a.list.length).map (fun i => tsz d (a.list.getD i nulV)) = a.list.map (tsz d) := by
            refine List.ext_getElem (by simp) fun i h1 h2 => ?_
            simp at h1
            simp [List.getD, List.getElem?_eq_getElem h1]
          rw [e] at this
          omega
        · simp
theorem fm_take {α β : Type} {l : List α} {g : α → List β} {i : Nat} (hi : i < l.length) : (l.take (i + 1)).flatMap g = (l.take i).flatMap g ++ g l[i] := by
  rw [List.take_succ_eq_append_getElem hi, List.flatMap_append]; simp
theorem fm_len {α β : Type} {l : List α} {g : α → List β} {i : Nat} (hi : i < l.length) : ((l.take i).flatMap g).length + (g l[i]).length ≤ (l.flatMap g).length := by
  have e : l = l.take i ++ l[i] :: l.drop (i + 1) := by rw [← List.drop_eq_getElem_cons hi, List.take_append_drop]
  conv => rhs; rw [e]
  rw [List.flatMap_append, List.flatMap_cons, List.length_append, List.length_append]; omega
theorem rg_take {β : Type} {g : Nat → List β} {i : Nat} : (List.range (i + 1)).flatMap g = (List.range i).flatMap g ++ g i := by
  rw [List.range_succ, List.flatMap_append]; simp
theorem rg_len {β : Type} {g : Nat → List β} {i n : Nat} (hi : i < n) : ((List.range i).flatMap g).length + (g i).length ≤ ((List.range n).flatMap g).length := by
  have h1 : (List.range n).take i = List.range i := by rw [List.take_range]; congr 1; omega
  have := fm_len (l := List.range n) (g := g) (i := i) (by simpa using hi)
  rw [h1] at this
  simpa using this
/-! ### blocks that a callee leaves, which adds to the caller's slice -/
def D0 (w : World) (v : Value) (b : Nat) : Prop := b < w.heap.size ∧ v.ownBlock ≠ some b
def Nx (w : World) (v x : Value) : Prop := ∀ q, x.ownBlock = some q → v.ownBlock = some q ∨ w.heap.size ≤ q
theorem Nx.self (w : World) (v : Value) : Nx w v v := fun q h => .inl h
theorem Nx.trans {w w' : World} {v x y : Value} (h : Nx w v x) (h' : Nx w' x y) (hs : w.heap.size ≤ w'.heap.size) : Nx w v y := fun q hq => (h' q hq).elim (h q) (fun h => .inr (Nat.le_trans hs h))
theorem D0.up {w w' : World} {v x : Value} (hs : w.heap.size ≤ w'.heap.size) (hx : Nx w v x) : ∀ b, D0 w v b → D0 w' x b := fun b h => ⟨Nat.lt_of_lt_of_le h.1 hs, fun e => (hx b e).elim h.2 fun h' => by have := h.1; omega⟩
theorem Kp.d0 (w : World) (v : Value) : Kp (D0 w v) w w := Kp.refl fun b h => h.1
theorem Kp.d0step {w0 w w' : World} {v x : Value} (h : Kp (D0 w0 v) w0 w) (h2 : Kp (D0 w x) w w') (hx : Nx w0 v x) : Kp (D0 w0 v) w0 w' :=
  ⟨h.lt, Nat.le_trans h.sz h2.sz, fun b hb => (h2.kp b (D0.up h.sz hx b hb)).trans (h.kp b hb)⟩
theorem Kp.d0own {w0 w w' : World} {v x : Value} {o : Option Nat} (h : Kp (D0 w0 v) w0 w) (hg : w.grownBy w' o) (ho : o = x.ownBlock) (hx : Nx w0 v x) : Kp (D0 w0 v) w0 w' :=
  h.grown hg fun b hb e => by
    subst ho
    exact (D0.up (Nat.le_refl _) hx b hb).2 e
theorem PthsC.d0 {w0 w w' : World} {x y : Value} {ps : List (List Stp)} {cs : List Value} (h : PthsC (fun b => Fr w0 w b ∧ x.ownBlock ≠ some b) w ps cs) (hk : Kp (D0 w x) w w') (hy : Nx w x y) : PthsC (fun b => Fr w0 w' b ∧ y.ownBlock ≠ some b) w' ps cs :=
  PthsC.mono (fun b hb => ⟨⟨hb.1.1, Nat.lt_of_lt_of_le hb.1.2 hk.sz⟩, fun e => (hy b e).elim hb.2 fun h' => by have := hb.1.2; omega⟩) (fun b hb => hk.kp b ⟨hb.1.2, hb.2⟩) ps cs h
theorem src_rowk {B e k n : Nat} {w : World} {v : Value} {xs : List Value} (row : w.ownsRow B e k v n xs) : Src w v n xs := by
  rcases row.2 with ⟨rfl, h0⟩ | ⟨g, cap, cur, rfl, hb, hg, hle, _, hcs, htake⟩
  · subst h0
    exact .inl ⟨rfl, rfl, List.eq_nil_of_length_eq_zero (by have := row.1; omega)⟩
  · refine .inr ⟨⟨g, 0, none⟩, cap, rfl, fun j u hj => ?_⟩
    rw [add_addr, cell_of_row w g (0 + j) cur _ _ hg]
    rw [← htake] at hj
    rw [List.getElem?_take] at hj
    split at hj
    · simpa using hj
    · cases hj
theorem classic_eqB : ∃ E : V → V → Bool, ∀ x y, E x y = true ↔ canon x = canon y := ⟨fun x y => @decide (canon x = canon y) (Classical.propDecidable _), fun x y => @decide_eq_true_iff _ (Classical.propDecidable _)⟩
end Go.Dk
end
section
set_option linter.unusedVariables false
set_option linter.unusedSimpArgs false
namespace Go.Dk
open Go Go.RowKit
theorem Nw.field {m : Nat} {v : V} (h : Nw m v) {kv : ByteArray × V} (hk : kv ∈ v.fields) : Nw m kv.2 := fun d => (h (d + 1)).2 kv hk
end Go.Dk
end
section
set_option linter.unusedVariables false
set_option linter.unusedSimpArgs false
namespace Go.Dk
open Go Go.RowKit
theorem hasF_of_mem {l : Fs} (hn : (keysOf l).Nodup) {k : ByteArray} {x : V} (h : (k, x) ∈ l) : hasF k l = some x := by
  induction l with
  | nil => cases h
  | cons kv l ih =>
    have hc := List.nodup_cons.1 (by simpa [keysOf] using hn : (kv.1 :: keysOf l).Nodup)
    unfold hasF
    rcases List.mem_cons.1 h with rfl | h
    · simp
    · have hne : kv.1 ≠ k := fun e => hc.1 (e ▸ List.mem_map.2 ⟨_, h, rfl⟩)
      have := ih hc.2 h
      unfold hasF at this
      simp [List.find?_cons, hne, this]
theorem nodup_fs {l : Fs} (hn : (keysOf l).Nodup) : l.Nodup := by
  have := keys_ne hn
  exact this.imp fun h e => h (by rw [e])
theorem mem_iff_hasF {l : Fs} (hn : (keysOf l).Nodup) (x : ByteArray × V) : x ∈ l ↔ hasF x.1 l = some x.2 := ⟨fun h => hasF_of_mem hn h, fun h => hasF_mem h⟩
theorem perm_of_hasF {X Y : Fs} (hx : (keysOf X).Nodup) (hy : (keysOf Y).Nodup) (h : ∀ k, hasF k X = hasF k Y) : X.Perm Y := by
  rw [List.perm_ext_iff_of_nodup (nodup_fs hx) (nodup_fs hy)]
  intro a
  rw [mem_iff_hasF hx, mem_iff_hasF hy, h]
def canM (l : Fs) : Fs := l.map fun kv => (kv.1, canon kv.2)
theorem keys_canM (l : Fs) : keysOf (canM l) = keysOf l := by unfold keysOf canM; rw [List.map_map]; rfl
theorem hasF_canM (k : ByteArray) : ∀ l : Fs, hasF k (canM l) = (hasF k l).map canon
  | [] => rfl
  | kv :: l => by
    have := hasF_canM k l
    unfold hasF canM at *
    rw [List.map_cons, List.find?_cons, List.find?_cons]
    by_cases h : kv.1 = k
    · simp [h]
    · simp only [h, decide_false]; exact this
theorem canon_map_eq {X Y : Fs} (hx : (keysOf X).Nodup) (hy : (keysOf Y).Nodup) (h : ∀ k, (hasF k X).map canon = (hasF k Y).map canon) : canon (mapV X) = canon (mapV Y) := by
  rw [canon_eq, canon_eq]
  have hp : (canM X).Perm (canM Y) := perm_of_hasF (by rw [keys_canM]; exact hx) (by rw [keys_canM]; exact hy) fun k => by rw [hasF_canM, hasF_canM, h]
  have e : sortF (canM X) = sortF (canM Y) := sortF_eq (by rw [keys_canM]; exact hy) ((sortF_perm _).trans hp) (sortF_sorted (by rw [keys_canM]; exact hx))
  have e2 : ((sortF X).map fun kv => (kv.1, canon kv.2)) = (sortF Y).map fun kv => (kv.1, canon kv.2) := by
    rw [← sortF_map, ← sortF_map]; exact e
  show V.mk (zk 7) [] _ _ = V.mk (zk 7) [] _ _
  simp only [mapV, V.fields, V.list]
  rw [e2]
def DlP (E : V → V → Bool) (d : Nat) (a b : V) (kv : ByteArray × V) : Prop := (kv.1 ∈ keysOf a.fields ∧ kv.1 ∉ keysOf b.fields ∧ kv.2 = nulV) ∨ ∃ y, (kv.1, y) ∈ b.fields ∧ ((hasF kv.1 a.fields).any fun old => E old y) = false ∧ dl E d ((hasF kv.1 a.fields).getD nulV) y = some kv.2 ∧ y.sc.kind ≠ 0
def nl : Nat → V → Prop
  | 0, _ => False
  | d + 1, v => ∃ kv ∈ v.fields, kv.2.sc.kind = 0 ∨ nl d kv.2
end Go.Dk
end
section
set_option linter.unusedVariables false
set_option linter.unusedSimpArgs false
namespace Go.Dk
open Go Go.RowKit
def F (w : World) (L : List (Nat × Obj)) (R : List Row) (b : Nat) : Prop := b < w.heap.size ∧ b ∉ L.map (·.1) ∧ ∀ r ∈ R, r.v.ownBlock ≠ some b
structure Fz (w : World) (L : List (Nat × Obj)) (R : List Row) (w' : World) (L' : List (Nat × Obj)) (R' : List Row) : Prop where
  up : ∀ b, F w L R b → F w' L' R' b
  kp : Keeps (F w L R) w w'
  sz : w.heap.size ≤ w'.heap.size
theorem F.lt {w : World} {L : List (Nat × Obj)} {R : List Row} (b : Nat) (h : F w L R b) : b < w.heap.size := h.1
section
variable {w0 w w' w'' : World} {L L' L'' : List (Nat × Obj)} {R R' R'' : List Row}
theorem Fz.refl (w : World) (L : List (Nat × Obj)) (R : List Row) : Fz w L R w L R := ⟨fun _ h => h, fun _ _ => rfl, Nat.le_refl _⟩
theorem Fz.trans (h : Fz w L R w' L' R') (h' : Fz w' L' R' w'' L'' R'') : Fz w L R w'' L'' R'' :=
  ⟨fun b hb => h'.up b (h.up b hb), fun b hb => (h'.kp b (h.up b hb)).trans (h.kp b hb), Nat.le_trans h.sz h'.sz⟩
theorem Fz.below (hb : Below w.heap.size w w') : Fz w L R w' L R :=
  ⟨fun b h => ⟨Nat.lt_of_lt_of_le h.1 hb.size, h.2⟩, fun b h => hb.block b h.1, hb.size⟩
theorem Fz.new {b : Nat} {o : Obj} (hb : w.heap.size = b) (hw : Below w.heap.size w w') : Fz w L R w' ((b, o) :: L) R :=
  ⟨fun c h => ⟨Nat.lt_of_lt_of_le h.1 hw.size, fun hm => by
    rcases List.mem_cons.1 (by simpa using hm : c ∈ b :: L.map (·.1)) with e | e
    · have := h.1; omega
    · exact h.2.1 e, h.2.2⟩, fun c h => hw.block c h.1, hw.size⟩
theorem set_ids {i b : Nat} {o o' : Obj} (hi : L[i]? = some (b, o)) : (L.set i (b, o')).map (·.1) = L.map (·.1) := by
  apply List.ext_getElem?
  intro j
  simp only [List.getElem?_map, List.getElem?_set]
  split
  · rename_i he; subst he; simp [hi]; exact (List.getElem?_eq_some_iff.1 hi).1
  · rfl
theorem Fz.set {i b : Nat} {o o' : Obj} (hi : L[i]? = some (b, o)) (hg : w.grownBy w' (some b)) : Fz w L R w' (L.set i (b, o')) R :=
  ⟨fun c h => ⟨Nat.lt_of_lt_of_le h.1 hg.size, by rw [set_ids hi]; exact h.2.1, h.2.2⟩, fun c h => hg.block c h.1 fun e => h.2.1 (by
    simp only [Option.some.injEq] at e; subst e; exact List.mem_map.2 ⟨_, List.mem_of_getElem? hi, rfl⟩), hg.size⟩
theorem Fz.app {r r' : Row} (hg : w.grownBy w' r.v.ownBlock) (hn : ∀ q, r'.v.ownBlock = some q → r.v.ownBlock = some q ∨ w.heap.size ≤ q) : Fz w L (r :: R) w' L (r' :: R) :=
  ⟨fun c h => ⟨Nat.lt_of_lt_of_le h.1 hg.size, h.2.1, fun s hs => by
    rcases List.mem_cons.1 hs with rfl | hs
    · intro e
      rcases hn c e with h1 | h1
      · exact h.2.2 r (List.mem_cons_self ..) h1
      · have := h.1; omega
    · exact h.2.2 s (List.mem_cons_of_mem _ hs)⟩, fun c h => hg.block c h.1 fun e => h.2.2 r (List.mem_cons_self ..) e.symm, hg.size⟩
theorem Fz.dropL (k : Nat) : Fz w L R w (L.drop k) R := ⟨fun c h => ⟨h.1, fun hm => h.2.1 (mem_map_drop hm), h.2.2⟩, fun _ _ => rfl, Nat.le_refl _⟩
theorem Fz.dropR (k : Nat) : Fz w L R w L (R.drop k) := ⟨fun c h => ⟨h.1, h.2.1, fun r hr => h.2.2 r (List.mem_of_mem_drop hr)⟩, fun _ _ => rfl, Nat.le_refl _⟩
theorem Fz.nilRow (e size : Nat) : Fz w L R w L (⟨e, size, .slice none 0 0, 0, []⟩ :: R) := ⟨fun c h => ⟨h.1, h.2.1, fun r hr => by
  rcases List.mem_cons.1 hr with rfl | hr
  · intro e; cases e
  · exact h.2.2 r hr⟩, fun _ _ => rfl, Nat.le_refl _⟩
theorem Fz.swap {r s : Row} : Fz w L (r :: s :: R) w L (s :: r :: R) := ⟨fun c h => ⟨h.1, h.2.1, fun t ht => h.2.2 t (by
  simp only [List.mem_cons] at ht ⊢
  rcases ht with h | h | h
  · exact .inr (.inl h)
  · exact .inl h
  · exact .inr (.inr h))⟩, fun _ _ => rfl, Nat.le_refl _⟩
theorem Fz.adopt {e k n : Nat} {v : Value} {xs : List Value} (hb : Below w.heap.size w w') (row : w'.ownsRow w.heap.size e k v n xs) : Fz w L R w' L (⟨e, k, v, n, xs⟩ :: R) :=
  ⟨fun c h => ⟨Nat.lt_of_lt_of_le h.1 hb.size, h.2.1, fun r hr => by
    rcases List.mem_cons.1 hr with rfl | hr
    · intro e; have := (row.lt _ e).1; have := h.1; omega
    · exact h.2.2 r hr⟩, fun c h => hb.block c h.1, hb.size⟩
theorem F.fresh (cx : Cxr w0 w L R) (hs : w.heap.size ≤ w'.heap.size) : ∀ b, Fr w w' b → F w' L R b := fun b h =>
  ⟨h.2, fun hm => by obtain ⟨p, hp, rfl⟩ := List.mem_map.1 hm; have := cx.lt p hp; have := h.1; omega, fun r hr e => by
    have := ((cx.rows r hr).lt _ e).2; have := h.1; omega⟩
theorem F.row1 {r : Row} (cx : Cxr w0 w L (r :: R)) : ∀ q, r.v.ownBlock = some q → F w L R q := fun q hq =>
  ⟨((cx.rows r (List.mem_cons_self ..)).lt q hq).2, cx.off r (List.mem_cons_self ..) q hq, fun s hs => (List.pairwise_cons.1 cx.pw).1 s hs q hq⟩
theorem Fz.rep (hz : Fz w L R w' L' R') {v : V} {r : List Value} (h : RepV (F w L R) w v r) : RepV (F w' L' R') w' v r := RepV.mono hz.up hz.kp _ _ h
theorem Fz.pth (hz : Fz w L R w' L' R') {s : Value} {p : List Stp} (h : PthA (F w L R) w s p) : PthA (F w' L' R') w' s p := h.mono hz.up hz.kp
theorem Fz.repL (hz : Fz w L R w' L' R') {s : Value} {l : List V} (h : RepL (F w L R) w s l) : RepL (F w' L' R') w' s l := h.mono hz.up hz.kp
theorem Fz.row (hz : Fz w L R w' L' R') {b o : Nat} {l : List Value} (h : RowAt w b o l) (hb : F w L R b) : RowAt w' b o l := h.keep (hz.kp b hb)
theorem RepV.val {v : V} {r : List Value} (h : RepV (F w L R) w v r) : Val w v r := RepV.mono (fun b hb => hb.1) (fun _ _ => rfl) _ _ h
theorem RepV.fr {v : V} {r : List Value} (h : RepV (Fr w w') w' v r) (cx : Cxr w0 w L R) (hs : w.heap.size ≤ w'.heap.size) : RepV (F w' L R) w' v r := RepV.mono (F.fresh cx hs) (fun _ _ => rfl) _ _ h
theorem PthA.fr {s : Value} {p : List Stp} (h : PthA (Fr w w') w' s p) (cx : Cxr w0 w L R) (hs : w.heap.size ≤ w'.heap.size) : PthA (F w' L R) w' s p := h.mono (F.fresh cx hs) (fun _ _ => rfl)
end
theorem Cxr.set0 {w0 w : World} {L : List (Nat × Obj)} {R : List Row} {b : Nat} {o o' : Obj} (cx : Cxr w0 w (((b, o) :: L).set 0 (b, o')) R) : Cxr w0 w ((b, o') :: L) R := cx
/-! ### values that may be absent -/
abbrev OV := Option V
def PtrO (A : Nat → Prop) (w : World) (x : Value) : OV → Prop
  | none => x = .pointer none
  | some v => ∃ b r, x = .pointer (some ⟨b, 0, none⟩) ∧ A b ∧ RowAt w b 0 r ∧ RepV A w v r
theorem PtrO.mono {A A' : Nat → Prop} {w w' : World} (hA : ∀ b, A b → A' b) (hk : Keeps A w w') {x : Value} {o : OV} (h : PtrO A w x o) : PtrO A' w' x o := by
  cases o with
  | none => exact h
  | some v =>
    obtain ⟨b, r, e, h1, h2, h3⟩ := h
    exact ⟨b, r, e, hA b h1, h2.keep (hk b h1), RepV.mono hA hk _ _ h3⟩
theorem PtrO.fr {w0 w w' : World} {L : List (Nat × Obj)} {R : List Row} {x : Value} {o : OV} (h : PtrO (Fr w w') w' x o) (cx : Cxr w0 w L R) (hs : w.heap.size ≤ w'.heap.size) : PtrO (F w' L R) w' x o := h.mono (F.fresh cx hs) (fun _ _ => rfl)
theorem PtrO.form {A : Nat → Prop} {w : World} {x : Value} {o : OV} (h : PtrO A w x o) : ∃ a b r, x = .pointer a ∧ a.isSome = o.isSome ∧ (o.isSome = true → a = some ⟨b, 0, none⟩ ∧ A b ∧ RowAt w b 0 r ∧ RepV A w (o.getD nulV) r) := by
  cases o with
  | none => exact ⟨none, 0, [], h, rfl, fun h => by cases h⟩
  | some v =>
    obtain ⟨b, r, e, h1, h2, h3⟩ := h
    exact ⟨_, b, r, e, rfl, fun _ => ⟨rfl, h1, h2, h3⟩⟩
end Go.Dk
set_option linter.unusedVariables false
set_option linter.unusedSimpArgs false
namespace Go.Dk
open Go Go.RowKit
structure Mid where
  i : Nat
  d : Nat
  φ : Value → World → Prop
def ixs (M : List Mid) : List (Nat × Nat) := M.map fun x => (x.i, x.d)
def anyI (l : List (Nat × Nat)) (i : Nat) : Bool := l.any fun q => Nat.beq q.1 i
def distB : List (Nat × Nat) → Bool
  | [] => true
  | p :: r => r.all (fun q => !Nat.beq q.2 p.2) && distB r
def midB (ops : Array Oper) (pu M : List (Nat × Nat)) : Bool :=
  (M.all fun p => (match ops[p.1]? with | some o => (match o.dst with | some d => Nat.beq d p.2 | none => false) | none => false) && !anyI pu p.1 && (depsOf ops p.1).all (fun e => anyI pu e || anyI M e)) &&
  distB M &&
  (pu.all fun p => (depsOf ops p.1).all fun e => anyI pu e) &&
  (List.range ops.size).all fun j => anyI pu j || anyI M j || M.all fun p => isAnc ops 12 p.1 j
section
variable {P : Program} {ops : Array Oper} {Q : Exit → Act → World → Prop} {S : World → Prop} {pu : List (Nat × Nat)} {n : Nat} {w0 : World} {L : List (Nat × Obj)} {R : List Row}
end
end Go.Dk
set_option linter.unusedVariables false
set_option linter.unusedSimpArgs false
namespace Go.Dk
open Go Go.RowKit
def eqO (E : V → V → Bool) : OV → OV → Bool
  | none, none => true
  | some a, some b => E a b
  | _, _ => false
def fieldO (k : ByteArray) : OV → OV
  | none => none
  | some v => if v.sc.kind = 7 then hasF k v.fields else none
def isMap : OV → Bool
  | none => false
  | some v => v.sc.kind == 7
def fsO : OV → Fs
  | none => []
  | some v => v.fields
def hasK (ks : List ByteArray) (k : ByteArray) : Bool := ks.any fun x => decide (x = k)
def addK (ks : List ByteArray) (k : ByteArray) : List ByteArray := if hasK ks k then ks else ks ++ [k]
def keysO (b o t : OV) : List ByteArray := (keysOf (fsO o ++ fsO t ++ fsO b)).foldl addK []
structure Cf where
  p : List Stp
  b : OV
  o : OV
  t : OV
def mgStep (M : Nat → List Stp → OV → OV → OV → OV × List Cf) (i : Nat) (p : List Stp) (b o t : OV) (s : Fs × List Cf) (k : ByteArray) : Fs × List Cf :=
  let x := M (i + s.2.length) (p ++ [keyS k]) (fieldO k b) (fieldO k o) (fieldO k t)
  (s.1 ++ (x.1.map fun v => (k, v)).toList, s.2 ++ x.2)
def mapsO (b o t : OV) : Bool := isMap o && isMap t && (b.isNone || isMap b)
def mg (E : V → V → Bool) (tk : List Bool) : Nat → Nat → List Stp → OV → OV → OV → OV × List Cf
  | 0, _, _, _, o, _ => (o, [])
  | d + 1, i, p, b, o, t =>
    if eqO E o t || eqO E t b then (o, [])
    else if eqO E o b then (t, [])
    else if mapsO b o t then
      (some (mapV ((keysO b o t).foldl (mgStep (mg E tk d) i p b o t) ([], [])).1), ((keysO b o t).foldl (mgStep (mg E tk d) i p b o t) ([], [])).2)
    else (if tk.getD i false then t else o, [⟨p, b, o, t⟩])
/-! ### good values -/
def GdO (d m : Nat) (x : OV) : Prop := ∀ v, x = some v → Gd d m v
theorem GdO.some {d m : Nat} {v : V} (h : Gd d m v) : GdO d m (some v) := fun u e => by cases e; exact h
theorem GdO.none {d m : Nat} : GdO d m none := fun u e => by cases e
theorem GdO.field {d m : Nat} {x : OV} (h : GdO (d + 1) m x) (k : ByteArray) : GdO d m (fieldO k x) := fun v e => by
  cases x with
  | none => cases e
  | some u =>
    simp only [fieldO] at e
    split at e
    · exact ((h u rfl).field (hasF_mem e)).2
    · cases e
theorem GdO.key {d m : Nat} {x : OV} (h : GdO (d + 1) m x) {k : ByteArray} (hk : k ∈ keysOf (fsO x)) : k.size ≤ 1048576 := by
  cases x with
  | none => simp [fsO, keysOf] at hk
  | some u =>
    obtain ⟨kv, hkv, rfl⟩ := List.mem_map.1 hk
    exact ((h u rfl).field hkv).1
/-! ### how many conflicts -/
def tO (d : Nat) : OV → Nat
  | none => 0
  | some v => tsz d v
theorem sum_one {a : ByteArray} {c : Nat} : ∀ (ks : List ByteArray), ks.Nodup → (ks.map fun k => if a = k then c else 0).sum ≤ c
  | [], _ => by simp
  | k :: ks, h => by
    rw [List.map_cons, List.sum_cons]
    obtain ⟨h1, h2⟩ := List.nodup_cons.1 h
    by_cases hk : a = k
    · rw [if_pos hk]
      have : (ks.map fun k => if a = k then c else 0).sum = 0 := by
        have hz : ∀ (l : List ByteArray), a ∉ l → (l.map fun k => if a = k then c else 0).sum = 0 := by
          intro l
          induction l with
          | nil => simp
          | cons y l ih =>
            intro hn
            rw [List.mem_cons, not_or] at hn
            rw [List.map_cons, List.sum_cons, if_neg hn.1, ih hn.2]
        exact hz ks (hk ▸ h1)
      omega
    · rw [if_neg hk]
      have := sum_one (a := a) (c := c) ks h2
      omega
theorem sum_le {α : Type} {f g : α → Nat} (h : ∀ x, f x ≤ g x) : ∀ l : List α, (l.map f).sum ≤ (l.map g).sum
  | [] => Nat.le_refl _
  | x :: l => by have := h x; have := sum_le h l; simp only [List.map_cons, List.sum_cons]; omega
theorem sum_add {α : Type} {f g : α → Nat} : ∀ l : List α, (l.map fun x => f x + g x).sum = (l.map f).sum + (l.map g).sum
  | [] => rfl
  | x :: l => by have := sum_add (f := f) (g := g) l; simp only [List.map_cons, List.sum_cons]; omega
theorem sum_zero {α : Type} : ∀ l : List α, (l.map fun _ => 0).sum = 0
  | [] => rfl
  | _ :: l => by rw [List.map_cons, List.sum_cons, sum_zero l]
end Go.Dk
set_option linter.unusedVariables false
set_option linter.unusedSimpArgs false
namespace Go.Dk
open Go Go.RowKit
section
variable {α : Type} {φ ψ : α → List Value → Prop}
def Rws (φ : α → List Value → Prop) : List α → List (List Value) → Prop
  | [], [] => True
  | a :: l, r :: rs => φ a r ∧ Rws φ l rs
  | _, _ => False
theorem Rws.imp (h : ∀ a r, φ a r → ψ a r) : ∀ {l : List α} {rs : List (List Value)}, Rws φ l rs → Rws ψ l rs
  | [], [], _ => trivial
  | _ :: _, _ :: _, h' => ⟨h _ _ h'.1, Rws.imp h h'.2⟩
  | [], _ :: _, h' => h'.elim
  | _ :: _, [], h' => h'.elim
theorem Rws.append : ∀ {l l' : List α} {rs rs' : List (List Value)}, Rws φ l rs → Rws φ l' rs' → Rws φ (l ++ l') (rs ++ rs')
  | [], _, [], _, _, h' => h'
  | _ :: _, _, _ :: _, _, h, h' => ⟨h.1, Rws.append h.2 h'⟩
  | [], _, _ :: _, _, h, _ => h.elim
  | _ :: _, _, [], _, h, _ => h.elim
theorem Rws.flat {k : Nat} (hl : ∀ a r, φ a r → r.length = k) : ∀ {l : List α} {rs : List (List Value)}, Rws φ l rs → rs.flatten.length = l.length * k ∧ rs.length = l.length
  | [], [], _ => by simp
  | a :: l, r :: rs, h => by
    obtain ⟨h1, h2⟩ := Rws.flat hl h.2
    have := hl _ _ h.1
    rw [List.flatten_cons, List.length_append, h1, this, List.length_cons, List.length_cons, h2, Nat.add_mul]
    omega
  | [], _ :: _, h => h.elim
  | _ :: _, [], h => h.elim
theorem Rws.lens {k : Nat} (hl : ∀ a r, φ a r → r.length = k) : ∀ {l : List α} {rs : List (List Value)}, Rws φ l rs → ∀ r ∈ rs, r.length = k
  | [], [], _, r, hr => by cases hr
  | a :: l, x :: rs, h, r, hr => by
    rcases List.mem_cons.1 hr with rfl | hr
    · exact hl _ _ h.1
    · exact Rws.lens hl h.2 r hr
  | [], _ :: _, h, _, _ => h.elim
  | _ :: _, [], h, _, _ => h.elim
theorem Rws.one (h1 : ∀ a r, φ a r → r.all (·.oneCell') = true) : ∀ {l : List α} {rs : List (List Value)}, Rws φ l rs → rs.flatten.all (·.oneCell') = true
  | [], [], _ => rfl
  | a :: l, r :: rs, h => by rw [List.flatten_cons, List.all_append, h1 _ _ h.1, Rws.one h1 h.2]; rfl
  | [], _ :: _, h => h.elim
  | _ :: _, [], h => h.elim
theorem Rws.at : ∀ {l : List α} {rs : List (List Value)} {i : Nat} {a : α}, Rws φ l rs → l[i]? = some a → ∃ r, rs[i]? = some r ∧ φ a r
  | [], [], i, a, _, h => by simp at h
  | x :: l, r :: rs, 0, a, h, ha => by
    obtain rfl : x = a := by simpa using ha
    exact ⟨r, rfl, h.1⟩
  | x :: l, r :: rs, i + 1, a, h, ha => by
    obtain ⟨r', h1, h2⟩ := Rws.at h.2 (by simpa using ha)
    exact ⟨r', by simpa using h1, h2⟩
  | [], _ :: _, _, _, h, _ => h.elim
  | _ :: _, [], _, _, h, _ => h.elim
theorem flat_atk {k : Nat} : ∀ (rs : List (List Value)) (j : Nat) (r : List Value), (∀ r ∈ rs, r.length = k) → rs[j]? = some r → (rs.flatten.drop (j * k)).take r.length = r
  | [], j, r, _, h => by simp at h
  | x :: rs, 0, r, hl, h => by
    simp at h; subst h
    simp
  | x :: rs, j + 1, r, hl, h => by
    have h1 : x.length = k := hl x (by simp)
    rw [List.flatten_cons, show (j + 1) * k = x.length + j * k by rw [Nat.add_mul, h1]; omega, List.drop_append, List.drop_eq_nil_of_le (by omega), List.nil_append, show x.length + j * k - x.length = j * k by omega]
    exact flat_atk rs j r (fun r hr => hl r (List.mem_cons_of_mem _ hr)) (by simpa using h)
theorem Rws.rowAt {k : Nat} (hl : ∀ a r, φ a r → r.length = k) {l : List α} {rs : List (List Value)} {i : Nat} {a : α} {w : World} {g o : Nat} (h : Rws φ l rs) (hr : RowAt w g o rs.flatten) (ha : l[i]? = some a) : ∃ r, RowAt w g (o + i * k) r ∧ φ a r := by
  obtain ⟨r, h1, h2⟩ := h.at ha
  exact ⟨r, hr.sub (i * k) (flat_atk rs i r (h.lens hl) h1), h2⟩
end
/-! ### conflicts -/
def cfA (A : Nat → Prop) (w : World) (c : Cf) (r : List Value) : Prop := ∃ ps bs os ts, r = [ps, bs, os, ts] ∧ PthA A w ps c.p ∧ RepL A w bs c.b.toList ∧ RepL A w os c.o.toList ∧ RepL A w ts c.t.toList
theorem cfA.mono {A A' : Nat → Prop} {w w' : World} (hA : ∀ b, A b → A' b) (hk : Keeps A w w') {c : Cf} {r : List Value} (h : cfA A w c r) : cfA A' w' c r := by
  obtain ⟨ps, bs, os, ts, e, h1, h2, h3, h4⟩ := h
  exact ⟨ps, bs, os, ts, e, h1.mono hA hk, h2.mono hA hk, h3.mono hA hk, h4.mono hA hk⟩
theorem cfA.len {A : Nat → Prop} {w : World} (c : Cf) (r : List Value) (h : cfA A w c r) : r.length = 4 := by
  obtain ⟨ps, bs, os, ts, rfl, _⟩ := h; rfl
theorem cfA.one {A : Nat → Prop} {w : World} (c : Cf) (r : List Value) (h : cfA A w c r) : r.all (·.oneCell') = true := by
  obtain ⟨ps, bs, os, ts, rfl, h1, h2, h3, h4⟩ := h
  simp only [List.all_cons, List.all_nil, h1.one, h2.one, h3.one, h4.one]; rfl
/-! ### maps that count strings -/
def idxK (ks : List ByteArray) (k : ByteArray) : Nat := ks.findIdx fun x => decide (x = k)
def ents : List ByteArray → (ByteArray → Int) → Nat → List MapEntry
  | [], _, _ => []
  | k :: ks, c, n => ⟨.string k, .int .i64 (c k), n⟩ :: ents ks c (n + 1)
def updC (c : ByteArray → Int) (k : ByteArray) (v : Int) : ByteArray → Int := fun x => if x = k then v else c x
section
variable {P : Program} {ops : Array Oper} {Q : Exit → Act → World → Prop} {rest : List Oper} {o : Oper} {n : Nat} {f : Nat → Value} {w w0 : World} {L : List (Nat × Obj)} {R : List Row} {ρ : Operand → Value}
end
end Go.Dk
end
section
set_option linter.unusedVariables false
set_option linter.unusedSimpArgs false
namespace Go.Dk
open Go Go.RowKit
theorem Cxr.swap {w0 w : World} {L : List (Nat × Obj)} {r s : Row} {R : List Row} (h : Cxr w0 w L (r :: s :: R)) : Cxr w0 w L (s :: r :: R) := by
  have hm : ∀ t, t ∈ s :: r :: R → t ∈ r :: s :: R := fun t ht => by
    simp only [List.mem_cons] at ht ⊢
    rcases ht with h | h | h
    · exact .inr (.inl h)
    · exact .inl h
    · exact .inr (.inr h)
  have h1 := List.pairwise_cons.1 h.pw
  have h2 := List.pairwise_cons.1 h1.2
  refine ⟨h.ext, h.own, h.lo, h.nd, fun t ht => h.rows t (hm t ht), fun t ht => h.off t (hm t ht), List.pairwise_cons.2 ⟨fun t ht k hk hk' => ?_, List.pairwise_cons.2 ⟨fun t ht => h1.1 t (List.mem_cons_of_mem _ ht), h2.2⟩⟩⟩
  rcases List.mem_cons.1 ht with rfl | ht
  · exact h1.1 s (by simp) k hk' hk
  · exact h2.1 t ht k hk hk'
section
variable {P : Program} {ops : Array Oper} {Q : Exit → Act → World → Prop} {rest : List Oper} {o : Oper} {n : Nat} {f : Nat → Value} {w w0 : World} {L : List (Nat × Obj)} {R : List Row} {ρ : Operand → Value}
theorem v_addQ {t t' : TypeId} {x y : Operand} {p q r : Int} (ho : o.op = .binOp .add t x y t') (hx : ρ x = .int .i64 p) (hy : ρ y = .int .i64 q) (he : p + q = r) (h1 : -9223372036854775808 ≤ r) (h2 : r ≤ 9223372036854775807) : (execOp ρ o).run P w = .ok (.value (.int .i64 r)) w := by
  subst he; exact v_add ho hx hy h1 h2
theorem v_subQ {t t' : TypeId} {x y : Operand} {p q r : Int} (ho : o.op = .binOp .sub t x y t') (hx : ρ x = .int .i64 p) (hy : ρ y = .int .i64 q) (he : p - q = r) (h1 : -9223372036854775808 ≤ r) (h2 : r ≤ 9223372036854775807) : (execOp ρ o).run P w = .ok (.value (.int .i64 r)) w := by
  subst he; exact v_sub ho hx hy h1 h2
theorem v_mulN {t t' : TypeId} {x y : Operand} {a b : Nat} (ho : o.op = .binOp .mul t x y t') (hx : ρ x = .int .i64 (a : Int)) (hy : ρ y = .int .i64 (b : Int)) (h2 : a * b ≤ 9223372036854775807) : (execOp ρ o).run P w = .ok (.value (.int .i64 ((a * b : Nat) : Int))) w := by
  have := v_mul (P := P) (w := w) ho hx hy (by rw [← Int.natCast_mul]; omega) (by rw [← Int.natCast_mul]; omega)
  rwa [← Int.natCast_mul] at this
theorem v_max {t t' : TypeId} {x y : Operand} {a b : Int} (ho : o.op = .call { callee := .builtin .max, args := #[x, y], argTypes := #[t, t'] }) (hx : ρ x = .int .i64 a) (hy : ρ y = .int .i64 b) : (execOp ρ o).run P w = .ok (.value (.int .i64 (max a b))) w := by
  unfold execOp
  rw [ho]
  have e : (if b > a then b else a) = max a b := by rw [Int.max_def]; split <;> split <;> omega
  simp [resolve, invoke, builtin, hx, hy, run_max_int2, e]
theorem s_make {t e bytes d nn : Nat} {x : Operand} {zs : List Value} (cx : Cxr w0 w L R) (ht : P.underlying t = some (.slice e)) (hi : ∃ i z, P.info? e = some i ∧ i.zero = some z ∧ i.size = 1 ∧ i.bytes = bytes ∧ z.cells = zs.toArray) (hz : zs.length = 1)
    (hg : o.guard = none) (hd : o.dst = some d) (ho : o.op = .makeSlice t x x) (hx : ev n f x = .int .i64 (nn : Int)) (hb : bytes * nn ≤ 281474976710656) (hn : nn ≤ maxLen)
    (h : ∀ v w', Cxr w0 w' L (⟨e, 1, v, nn, List.replicate nn (zs.getD 0 undef)⟩ :: R) → w.grownBy w' none → (∃ g, v = .slice (some ⟨g, 0, none⟩) nn nn) → wpList P ops Q rest (St n (upd f d v)) w') : wpList P ops Q (o :: rest) (St n f) w := by
  obtain ⟨i, z, h1, h2, h3, h4, h5⟩ := hi
  obtain ⟨w', hr, hrow, hgr⟩ := run_make_full (P := P) w w0.heap.size t e i z 1 ht h1 h2 h3 .i64 .i64 nn (by rw [h4]; exact hb) hn cx.ext.size
  refine s_new (w' := w') (v := .slice (some ⟨w.heap.size, 0, none⟩) nn nn) hg hd ?_ (h _ _ ?_ hgr ⟨_, rfl⟩)
  · unfold execOp; rw [ho]; simp [hx, hr]
  · have hbel : Below w.heap.size w w' := ⟨hgr.os, hgr.tape, hgr.output, hgr.size, fun k hk => hgr.block k hk (by simp)⟩
    obtain ⟨z0, rfl⟩ : ∃ z0, zs = [z0] := List.length_eq_one_iff.1 hz
    have e1 : (madeCells z.cells (nn * 1)).toList = List.replicate nn z0 := by
      rw [Nat.mul_one, h5]
      exact toList_madeCells_one z0 nn
    rw [e1] at hrow
    refine (cx.call hbel).addRow _ hrow ?_ ?_
    · intro q hq hm
      simp only [Value.ownBlock, Option.some.injEq] at hq
      obtain ⟨p, hp, rfl⟩ := List.mem_map.1 hm
      have := cx.lt p hp; omega
    · intro s hs q hq hq'
      simp only [Value.ownBlock, Option.some.injEq] at hq
      have := ((cx.rows s hs).lt _ hq').2; omega
theorem s_cell {t : TypeId} {x y : Operand} {e k cap g j : Nat} {xs : List Value} {v : Value} (cx : Cxr w0 w L (⟨e, 1, .slice (some ⟨g, 0, none⟩) k cap, k, xs⟩ :: R)) (hg : o.guard = none) (hd : o.dst = none) (ho : o.op = .store t x y) (hx : ev n f x = .pointer (some ⟨g, j, none⟩)) (hy : ev n f y = v) (h1 : v.oneCell' = true) (hj : j < xs.length) (hs : (P.info? t).map (·.size) = some 1)
    (h : ∀ w', Cxr w0 w' L (⟨e, 1, .slice (some ⟨g, 0, none⟩) k cap, k, xs.set j v⟩ :: R) → w.grownBy w' (some g) → wpList P ops Q rest (St n f) w') : wpList P ops Q (o :: rest) (St n f) w := by
  have hrow0 := cx.rows _ (List.mem_cons_self ..)
  have hoff0 := cx.off _ (List.mem_cons_self ..)
  have hpw0 := (List.pairwise_cons.1 cx.pw).1
  simp only at hrow0 hoff0 hpw0
  obtain ⟨hst, hgr⟩ := World.ownsRow.stored (w := w) hrow0 j v
  have hc : v.cells = #[v] := by cases v <;> first | rfl | simp [Value.oneCell'] at h1
  have hcell : w.cell? ⟨g, j, none⟩ = some xs[j] := by
    have h0 : 0 < k := by
      have := hrow0.1
      rcases Nat.eq_zero_or_pos k with h | h
      · subst h; omega
      · exact h
    have := cx.rowOf h0 j xs[j] (List.getElem?_eq_getElem hj)
    simpa using this
  have hfr : w.frozen? ⟨g, j, none⟩ = false := World.ownsRow.frozenAt hrow0 j
  refine s_put (w' := w.setCell ⟨g, j, none⟩ v) hg hd ?_ (h _ ?_ hgr)
  · unfold execOp; rw [ho]
    simp [hx, hy, Instr.storeAt, Instr.sureAddr, storeVar, run_size (w := w) hs, hc, storeCells, run_store P w _ v _ h1, add_addr, hcell, hfr]
  · have hcx0 : Cxr w0 (w.setCell ⟨g, j, none⟩ v) L R := by
      refine ⟨cx.ext.grown hgr cx.ext.size (fun k hk => by simp at hk; subst hk; exact (hrow0.lt _ rfl).1), ?_, cx.lo, cx.nd, ?_, fun r hr => cx.off r (List.mem_cons_of_mem _ hr), (List.pairwise_cons.1 cx.pw).2⟩
      · intro p hp'
        rw [hgr.block p.1 (cx.lt p hp') (fun e => hoff0 p.1 (by rw [e]; rfl) (List.mem_map.2 ⟨p, hp', rfl⟩))]
        exact cx.own p hp'
      · intro r hr
        refine cx.row_keep (List.mem_cons_of_mem _ hr) hgr.os hgr.tape hgr.output hgr.size fun q hq hv => hgr.block q hq fun e => ?_
        exact hpw0 r hr q (by rw [e]; rfl) hv
    exact hcx0.addRow _ hst hoff0 hpw0
end
theorem Cxr.rowAt {w0 w : World} {L : List (Nat × Obj)} {R : List Row} {e k n g c : Nat} {xs : List Value} (cx : Cxr w0 w L R) (hr : (⟨e, k, .slice (some ⟨g, 0, none⟩) n c, n, xs⟩ : Row) ∈ R) (h0 : 0 < n) : RowAt w g 0 xs := by
  obtain ⟨a, c', e', h⟩ := own_row (cx.rows _ hr)
  obtain ⟨g', rfl, h1⟩ := h h0
  simp only [Value.slice.injEq, Option.some.injEq, Addr.mk.injEq, and_true, true_and] at e'
  obtain ⟨rfl, _⟩ := e'
  exact h1
end Go.Dk
namespace Go.Dk
open Go Go.RowKit
section
variable {P : Program} {Q : Exit → Act → World → Prop} {w w0 wk : World} {L : List (Nat × Obj)} {R : List Row} {n : Nat} {f : Nat → Value}
theorem w_ordF {id : Nat} {l : List Oper} (cx : Cxr w0 w L R) (hm : P.follows .mixedOrders = true) (pu : List (Nat × Nat)) (m : Array Bool)
    (hch : chkOrd l.toArray pu = true) (hmk : mskOrd l.toArray pu m = true) (hn : pu.all (fun p => Nat.blt p.2 n) = true) (hi : incr pu = true)
    (h : wpPu P l.toArray n (fun w' => Cxr w0 w' L R) (fun g => ∀ w', Cxr w0 w' L R → Below w.heap.size w w' → wpX P l.toArray pu Q (fun w' => Cxr w0 w' L R) (l.length + 1) m (St n g) w') pu f) : (Code.region id l.toArray true).wp P Q (St n f) w := by
  obtain ⟨g, hF, hag, hall⟩ := wpPu_spec hch pu f (fun _ h => h) hi h
  refine w_orders cx hm pu m (fun w' => Cxr w0 w' L R) g hch hmk (fun p hp => by have := List.all_eq_true.1 hn p hp; simpa using this) hag (fun p hp => ?_) (fun w' hS p hp => ?_) fun w' hc hb he => ⟨hc, hF w' hc hb⟩
  · obtain ⟨o, h1, h2, _⟩ := hall p hp; exact ⟨o, by simpa using h1, h2⟩
  · obtain ⟨o, h1, _, h2⟩ := hall p hp; exact ⟨o, by simpa using h1, h2 w' hS⟩
end
theorem v_mulC {P : Program} {o : Oper} {w : World} {ρ : Operand → Value} {t t' : TypeId} {x y : Operand} {a b c : Nat} (ho : o.op = .binOp .mul t x y t') (hx : ρ x = .int .i64 (a : Int)) (hy : ρ y = .int .i64 (b : Int)) (he : a * b = c) (h2 : c ≤ 9223372036854775807) : (execOp ρ o).run P w = .ok (.value (.int .i64 (c : Int))) w := by
  subst he; exact v_mulN ho hx hy h2
end Go.Dk
end
section
set_option linter.unusedVariables false
set_option linter.unusedSimpArgs false
namespace Go.Dk
open Go Go.RowKit
def lcsR (E : V → V → Bool) (x : V) (f : List V → Nat) : List V → Nat
  | [] => 0
  | y :: ys => if E x y then max (max (lcsR E x f ys) (f (y :: ys))) (f ys + 1) else max (lcsR E x f ys) (f (y :: ys))
def lcs (E : V → V → Bool) : List V → List V → Nat
  | [], _ => 0
  | x :: xs, ys => lcsR E x (lcs E xs) ys
def mst (E : V → V → Bool) (a b : List V) (i k : Nat) : Nat := lcs E (a.drop i) (b.drop k)
theorem mst_n (E : V → V → Bool) (a b : List V) {i : Nat} (k : Nat) (h : a.length ≤ i) : mst E a b i k = 0 := by
  unfold mst; rw [List.drop_eq_nil_of_le h]; rfl
theorem mst_m (E : V → V → Bool) (a b : List V) (i : Nat) {k : Nat} (h : b.length ≤ k) : mst E a b i k = 0 := by
  unfold mst; rw [List.drop_eq_nil_of_le h]
  cases a.drop i <;> rfl
theorem mst_step (E : V → V → Bool) (a b : List V) {i k : Nat} (hi : i < a.length) (hk : k < b.length) :
    mst E a b i k = if E a[i] b[k] then max (max (mst E a b i (k + 1)) (mst E a b (i + 1) k)) (mst E a b (i + 1) (k + 1) + 1) else max (mst E a b i (k + 1)) (mst E a b (i + 1) k) := by
  unfold mst
  rw [List.drop_eq_getElem_cons hi]
  simp only [lcs]
  conv => lhs; rw [List.drop_eq_getElem_cons hk]
  simp only [lcsR]
  rw [← List.drop_eq_getElem_cons hk]
theorem mst_le (E : V → V → Bool) (a b : List V) : ∀ (d i k : Nat), a.length - i = d → mst E a b i k ≤ a.length - i := by
  intro d
  induction d with
  | zero => intro i k h; rw [mst_n E a b k (by omega)]; omega
  | succ d ih =>
    intro i k h
    have hi : i < a.length := by omega
    have key : ∀ (e k : Nat), b.length - k = e → mst E a b i k ≤ a.length - i := by
      intro e
      induction e with
      | zero => intro k hk; rw [mst_m E a b i (by omega)]; omega
      | succ e ihe =>
        intro k hk
        have h1 := ihe (k + 1) (by omega)
        have h2 := ih (i + 1) k (by omega)
        have h3 := ih (i + 1) (k + 1) (by omega)
        rw [mst_step E a b hi (by omega)]
        split <;> omega
    exact key _ k rfl
def prt (E : V → V → Bool) (a b : List V) (i j : Nat) (k : Nat) : Bool := decide (j ≤ k) && (E (a.getD i nulV) (b.getD k nulV) && decide (mst E a b (i + 1) (k + 1) + 1 = mst E a b i j))
def sel (E : V → V → Bool) (a b : List V) : Nat → Nat → Nat → List (Nat × Nat)
  | 0, _, _ => []
  | d + 1, i, j => if j < b.length ∧ mst E a b i j ≠ 0 then
      match (List.range b.length).find? (prt E a b i j) with
      | some k => (i, k) :: sel E a b d (i + 1) (k + 1)
      | none => sel E a b d (i + 1) j
    else []
theorem find_first {n k : Nat} {p : Nat → Bool} (hk : k < n) (hp : p k = true) (h : ∀ j, j < k → p j = false) : (List.range n).find? p = some k := by
  rw [List.find?_eq_some_iff_append]
  refine ⟨hp, List.range k, (List.range (n - k - 1)).map (fun x => k + 1 + x), ?_, fun j hj => by rw [h j (by simpa using hj)]; rfl⟩
  have e1 : n = k + (1 + (n - k - 1)) := by omega
  conv => lhs; rw [e1]
  rw [List.range_add, List.range_add]
  simp [Function.comp_def]
  intro a _
  omega
theorem find_no {n : Nat} {p : Nat → Bool} (h : ∀ j, j < n → p j = false) : (List.range n).find? p = none := by
  rw [List.find?_eq_none]
  intro j hj
  rw [h j (by simpa using hj)]; simp
def mkI (F : Nat → Int) (n : Nat) : List Value := (List.range n).map fun t => .int .i64 (F t)
def mkB (G : Nat → Bool) (n : Nat) : List Value := (List.range n).map fun t => .bool (G t)
theorem mkI_len (F : Nat → Int) (n : Nat) : (mkI F n).length = n := by simp [mkI]
theorem mkB_len (G : Nat → Bool) (n : Nat) : (mkB G n).length = n := by simp [mkB]
theorem mkI_at {F : Nat → Int} {n t : Nat} (h : t < n) : (mkI F n)[t]? = some (.int .i64 (F t)) := by simp [mkI, h]
theorem mkB_at {G : Nat → Bool} {n t : Nat} (h : t < n) : (mkB G n)[t]? = some (.bool (G t)) := by simp [mkB, h]
theorem mkI_set {F : Nat → Int} {n t : Nat} {v : Int} : (mkI F n).set t (.int .i64 v) = mkI (fun u => if u = t then v else F u) n := by
  apply List.ext_getElem?
  intro j
  simp only [mkI, List.getElem?_set, List.getElem?_map, List.getElem?_range, List.length_map, List.length_range]
  by_cases hj : t = j
  · subst hj
    by_cases hn : t < n <;> simp [hn]
  · by_cases hn : j < n <;> simp [hj, hn, Ne.symm hj]
theorem mkB_set {G : Nat → Bool} {n t : Nat} {v : Bool} : (mkB G n).set t (.bool v) = mkB (fun u => if u = t then v else G u) n := by
  apply List.ext_getElem?
  intro j
  simp only [mkB, List.getElem?_set, List.getElem?_map, List.getElem?_range, List.length_map, List.length_range]
  by_cases hj : t = j
  · subst hj
    by_cases hn : t < n <;> simp [hn]
  · by_cases hn : j < n <;> simp [hj, hn, Ne.symm hj]
theorem mkI_zero (n : Nat) : List.replicate n (Value.int .i64 0) = mkI (fun _ => 0) n := by
  apply List.ext_getElem <;> simp [mkI]
theorem mkB_zero (n : Nat) : List.replicate n (Value.bool false) = mkB (fun _ => false) n := by
  apply List.ext_getElem <;> simp [mkB]
theorem ix_lt {n m i k : Nat} (hi : i ≤ n) (hk : k ≤ m) : i * (m + 1) + k < (n + 1) * (m + 1) := by
  have := Nat.mul_le_mul_right (m + 1) (show i + 1 ≤ n + 1 by omega)
  rw [Nat.add_mul, Nat.one_mul] at this
  omega
theorem ix_inj {m i k i' k' : Nat} (hk : k < m) (hk' : k' < m) (h : i * m + k = i' * m + k') : i = i' ∧ k = k' := by
  have h1 : i = i' := by
    have e1 : (i * m + k) / m = i := by rw [Nat.mul_comm, Nat.mul_add_div (by omega), Nat.div_eq_of_lt hk]; rfl
    have e2 : (i' * m + k') / m = i' := by rw [Nat.mul_comm, Nat.mul_add_div (by omega), Nat.div_eq_of_lt hk']; rfl
    rw [← e1, h, e2]
  subst h1
  exact ⟨rfl, by omega⟩
def TabI (E : V → V → Bool) (a b : List V) (F : Nat → Int) (ii kk : Nat) : Prop := ∀ i k, i ≤ a.length → k ≤ b.length → (ii ≤ i ∨ i + 1 = ii ∧ kk ≤ k ∨ k = b.length) → F (i * (b.length + 1) + k) = (mst E a b i k : Int)
theorem TabI.start (E : V → V → Bool) (a b : List V) : TabI E a b (fun _ => 0) a.length b.length := fun i k hi hk h => by
  rcases h with h | h | h
  · rw [mst_n E a b k (by omega)]; rfl
  · rw [mst_m E a b i (by omega)]; rfl
  · rw [mst_m E a b i (by omega)]; rfl
theorem TabI.row {E : V → V → Bool} {a b : List V} {F : Nat → Int} {ii : Nat} (h : TabI E a b F (ii + 1) 0) (kk : Nat) (hk : b.length ≤ kk) : TabI E a b F ii kk := fun i k hi hk' hh => by
  rcases hh with hh | hh | hh
  · rcases Nat.eq_or_lt_of_le hh with e | hl
    · exact h i k hi hk' (.inr (.inl ⟨by omega, by omega⟩))
    · exact h i k hi hk' (.inl (by omega))
  · exact h i k hi hk' (.inr (.inr (by omega)))
  · exact h i k hi hk' (.inr (.inr hh))
theorem TabI.next {E : V → V → Bool} {a b : List V} {F : Nat → Int} {i k : Nat} (h : TabI E a b F (i + 1) (k + 1)) (hi : i < a.length) (hk : k < b.length) {v : Int} (hv : v = (mst E a b i k : Int)) : TabI E a b (fun u => if u = i * (b.length + 1) + k then v else F u) (i + 1) k := fun i' k' hi' hk' hh => by
  by_cases he : i' * (b.length + 1) + k' = i * (b.length + 1) + k
  · obtain ⟨rfl, rfl⟩ := ix_inj (by omega) (by omega) he
    simp only [if_pos]
    exact hv
  · simp only [if_neg he]
    refine h i' k' hi' hk' ?_
    rcases hh with hh | ⟨hh, hh2⟩ | hh
    · exact .inl hh
    · rcases Nat.eq_or_lt_of_le hh2 with e | hl
      · exfalso
        obtain rfl : i' = i := by omega
        subst e
        exact he rfl
      · exact .inr (.inl ⟨hh, by omega⟩)
    · exact .inr (.inr hh)
def TabB (E : V → V → Bool) (a b : List V) (G : Nat → Bool) (ii kk : Nat) : Prop := ∀ i k, i < a.length → k < b.length → (ii ≤ i ∨ i + 1 = ii ∧ kk ≤ k) → G (i * b.length + k) = E (a.getD i nulV) (b.getD k nulV)
def ZerB (b : List V) (G : Nat → Bool) (ii kk : Nat) : Prop := ∀ i k, k < b.length → (i + 1 < ii ∨ i + 1 = ii ∧ k < kk) → G (i * b.length + k) = false
theorem TabB.row {E : V → V → Bool} {a b : List V} {G : Nat → Bool} {ii : Nat} (h : TabB E a b G (ii + 1) 0) : TabB E a b G ii b.length := fun i k hi hk hh => by
  rcases hh with hh | ⟨_, hh⟩
  · rcases Nat.eq_or_lt_of_le hh with e | hl
    · exact h i k hi hk (.inr ⟨by omega, by omega⟩)
    · exact h i k hi hk (.inl (by omega))
  · omega
theorem ZerB.row {b : List V} {G : Nat → Bool} {ii : Nat} (h : ZerB b G (ii + 1) 0) : ZerB b G ii b.length := fun i k hk hh => h i k hk (.inl (by omega))
theorem TabB.next {E : V → V → Bool} {a b : List V} {G : Nat → Bool} {i k : Nat} (h : TabB E a b G (i + 1) (k + 1)) (hk : k < b.length) (he : E (a.getD i nulV) (b.getD k nulV) = true) : TabB E a b (fun u => if u = i * b.length + k then true else G u) (i + 1) k := fun i' k' hi' hk' hh => by
  by_cases hx : i' * b.length + k' = i * b.length + k
  · obtain ⟨rfl, rfl⟩ := ix_inj hk' hk hx
    simp only [if_pos]; exact he.symm
  · simp only [if_neg hx]
    refine h i' k' hi' hk' (hh.imp id fun ⟨h1, h2⟩ => ⟨h1, ?_⟩)
    rcases Nat.eq_or_lt_of_le h2 with e | hl
    · exfalso
      obtain rfl : i' = i := by omega
      subst e; exact hx rfl
    · omega
theorem TabB.keep {E : V → V → Bool} {a b : List V} {G : Nat → Bool} {i k : Nat} (h : TabB E a b G (i + 1) (k + 1)) (hz : ZerB b G (i + 1) (k + 1)) (hk : k < b.length) (he : E (a.getD i nulV) (b.getD k nulV) = false) : TabB E a b G (i + 1) k := fun i' k' hi' hk' hh => by
  rcases hh with hh | ⟨h1, h2⟩
  · exact h i' k' hi' hk' (.inl hh)
  · rcases Nat.eq_or_lt_of_le h2 with e | hl
    · obtain rfl : i' = i := by omega
      subst e
      rw [he]; exact hz i' k hk (.inr ⟨rfl, by omega⟩)
    · exact h i' k' hi' hk' (.inr ⟨h1, by omega⟩)
theorem ZerB.next {b : List V} {G : Nat → Bool} {i k : Nat} (h : ZerB b G (i + 1) (k + 1)) (hk : k < b.length) : ZerB b (fun u => if u = i * b.length + k then true else G u) (i + 1) k := fun i' k' hk' hh => by
  have hx : ¬ i' * b.length + k' = i * b.length + k := fun e => by
    obtain ⟨rfl, rfl⟩ := ix_inj hk' hk e; omega
  simp only [if_neg hx]
  exact h i' k' hk' (hh.imp id fun ⟨h1, h2⟩ => ⟨h1, by omega⟩)
theorem ZerB.keep {b : List V} {G : Nat → Bool} {i k : Nat} (h : ZerB b G (i + 1) (k + 1)) : ZerB b G (i + 1) k := fun i' k' hk' hh => h i' k' hk' (hh.imp id fun ⟨h1, h2⟩ => ⟨h1, by omega⟩)
def prow (p : Nat) (q : Nat × Nat) : List Value := [.int .i64 ((p + q.1 : Nat) : Int), .int .i64 ((p + q.2 : Nat) : Int)]
theorem prow_len (p : Nat) (l : List (Nat × Nat)) : (l.flatMap (prow p)).length = l.length * 2 := by
  induction l with
  | nil => rfl
  | cons x l ih => rw [List.flatMap_cons, List.length_append, ih, List.length_cons]; show 2 + _ = _; omega
theorem sel_len (E : V → V → Bool) (a b : List V) : ∀ d i j, (sel E a b d i j).length ≤ d
  | 0, _, _ => by simp [sel]
  | d + 1, i, j => by
    unfold sel
    split
    · split
      · rename_i k _
        have := sel_len E a b d (i + 1) (k + 1)
        simp only [List.length_cons]; omega
      · have := sel_len E a b d (i + 1) j; omega
    · simp
end Go.Dk
end
section
namespace Go.Proofs.Ytmkihcdcgkdilaa
open Go Go.Dk Go.RowKit
set_option linter.unusedSimpArgs false
set_option linter.unusedVariables false
attribute [local irreducible] Go.wpList Go.Code.wp Go.bodyPost Go.wpStill Go.wpQuiet
theorem v_quo {P : Program} {o : Oper} {w : World} {ρ : Operand → Value} {t t' : TypeId} {x y : Operand} {p q : Int} (ho : o.op = .binOp .quo t x y t') (hx : ρ x = .int .i64 p) (hy : ρ y = .int .i64 q) (h0 : 0 ≤ p) (h1 : 1 ≤ q) (h2 : p ≤ 9223372036854775807) : (execOp ρ o).run P w = .ok (.value (.int .i64 (p / q))) w := by
  unfold execOp
  rw [ho]
  have e : p.tdiv q = p / q := Int.tdiv_eq_ediv_of_nonneg h0
  have hb := Int.ediv_nonneg h0 (show (0 : Int) ≤ q by omega)
  have hc := Int.ediv_le_self q h0
  have hw : IntKind.i64.wrap (p / q) = p / q := IntWalk.i64_in _ (by omega)
  have hq : q ≠ 0 := by omega
  simp [hx, hy, eqGuard, binOp, Op.intDiv, e, hw, hq]
theorem bd43 (p q : Int) (w : World) : (Instr.build 43 ([(0, .int .i64 p), (1, .int .i64 q)] : List (Nat × Value)).toArray).run Try.prog w = .ok (.agg #[.int .i64 p, .int .i64 q]) w := by
  go_simp
theorem mk82 : ∃ i z, Try.prog.info? 3 = some i ∧ i.zero = some z ∧ i.size = 1 ∧ i.bytes = 8 ∧ z.cells = ([.int .i64 0] : List Value).toArray := by
  obtain ⟨i, z, h1, h2, h3, h4, h5, _⟩ := ei3
  obtain ⟨z', hz1, hz2⟩ := z3
  refine ⟨i, z, h1, h2, h3, h4, ?_⟩
  have := hz1 default
  simp [zeroValue, typeInfo, h1, h2] at this
  rw [this]; exact hz2
theorem mk55 : ∃ i z, Try.prog.info? 4 = some i ∧ i.zero = some z ∧ i.size = 1 ∧ i.bytes = 1 ∧ z.cells = ([.bool false] : List Value).toArray := by
  obtain ⟨i, hi, hzz⟩ := Option.map_eq_some_iff.1 (show (Try.prog.info? 4).map (fun i => (i.zero, i.size, i.bytes)) = some (some (.bool false), 1, 1) by kernel_rfl)
  simp only [Prod.mk.injEq] at hzz
  exact ⟨i, .bool false, hi, hzz.1, hzz.2.1, hzz.2.2, rfl⟩
set_option maxRecDepth 10000 in
set_option maxHeartbeats 6400000 in
theorem c54 (E : V → V → Bool) (hE : ∀ x y, E x y = true ↔ canon x = canon y) (a b : List V) (s1 s2 : Value) (p : Nat) (w0 : World) (hla : Lst w0 s1 a) (hlb : Lst w0 s2 b) (hoa : ∀ x ∈ a, okd 48 x ∧ Fine x) (hob : ∀ x ∈ b, okd 48 x ∧ Fine x) (hna : a.length ≤ 6000) (hnb : b.length ≤ 6000) (hnm : a.length * b.length ≤ 40000) (hp : p ≤ 6000) : Fc Try.prog 54 [s1, s2, .int .i64 (p : Nat)] w0 (fun x w' => w'.ownsRow w0.heap.size 43 2 x (sel E a b a.length 0 0).length ((sel E a b a.length 0 0).flatMap (prow p))) := by
  obtain ⟨a1, c1, b1, o1, rfl, hfa1, hget1⟩ := hla.open
  obtain ⟨a2, c2, b2, o2, rfl, hfa2, hget2⟩ := hlb.open
  refine ret_enter Try.func54 rfl Try.ntmps54 rfl ?_
  have cx := Ctx.start w0
  refine wp_seq ?_
  refine wp_region_lit ?_
  refine s_val rfl rfl (v_assign rfl rfl) ?_
  refine wpList_nil ?_
  refine wp_seq ?_
  refine wp_region_lit ?_
  refine s_val rfl rfl (v_move rfl rfl) ?_
  refine s_val rfl rfl (v_lenSlice rfl rfl Try.underlying30) ?_
  refine s_val rfl rfl (v_move rfl rfl) ?_
  refine s_val rfl rfl (v_lenSlice rfl rfl Try.underlying30) ?_
  refine s_val rfl rfl (v_assign rfl rfl) ?_
  refine s_val rfl rfl (v_assign rfl rfl) ?_
  refine wpList_nil ?_
  refine wp_seq ?_
  refine wp_seq ?_
  refine wp_region_lit ?_
  refine s_val rfl rfl (v_move rfl rfl) ?_
  refine s_val rfl rfl (v_cmp rfl rfl rfl rfl) ?_
  refine s_val rfl rfl (v_move rfl rfl) ?_
  refine s_gval rfl rfl rfl wF (fun hc => v_move rfl (by first | exact gve hc rfl | exact gve (and_l hc) rfl | exact gve (and_l (and_l hc)) rfl | rfl)) ?_
  refine s_gval rfl rfl rfl wF (fun hc => v_cmp rfl (by first | exact gve hc rfl | exact gve (and_l hc) rfl | exact gve (and_l (and_l hc)) rfl | rfl) rfl rfl) ?_
  refine s_val rfl rfl (v_or rfl rfl rfl rfl) ?_
  refine s_val rfl rfl (v_move rfl rfl) ?_
  refine s_gval rfl rfl rfl wF (fun hc => v_move rfl (by first | exact gve hc rfl | exact gve (and_l hc) rfl | exact gve (and_l (and_l hc)) rfl | rfl)) ?_
  refine s_gval rfl rfl rfl wF (fun hc => v_move rfl (by first | exact gve hc rfl | exact gve (and_l hc) rfl | exact gve (and_l (and_l hc)) rfl | rfl)) ?_
  refine s_gval rfl rfl rfl wF (fun hc => v_quo rfl rfl (gve hc rfl) (by omega) (by have h5 := hc; simp only [Bool.not_eq_true', Bool.or_eq_false_iff, beq_eq_false_iff_ne] at h5; omega) (by omega)) ?_
  refine s_gval rfl rfl rfl wF (fun hc => v_cmp rfl (by first | exact gve hc rfl | exact gve (and_l hc) rfl | exact gve (and_l (and_l hc)) rfl | rfl) (by first | exact gve hc rfl | exact gve (and_l hc) rfl | exact gve (and_l (and_l hc)) rfl | rfl) rfl) ?_
  refine s_val rfl rfl (v_or rfl rfl rfl rfl) ?_
  refine wpList_nil ?_
  refine c_split rfl (fun hc34 => ?_) (fun hc34 => ?_)
  · skip
    refine wp_seq ?_
    refine wp_region_lit ?_
    refine s_val rfl rfl (v_assign rfl rfl) ?_
    refine wpList_nil ?_
    refine wp_ret ?_
    refine ret_tmp Try.results54 rfl ?_
    have hs0 : sel E a b a.length 0 0 = [] := by
      cases hn : a.length with
      | zero => rfl
      | succ d =>
        unfold sel
        rw [if_neg]
        rintro ⟨h1, _⟩
        simp only [Bool.or_eq_true, decide_eq_true_eq, beq_iff_eq] at hc34
        rcases hc34 with (h | h) | h
        · omega
        · omega
        · have hb0 : b.length ≠ 0 := by omega
          have h2 : (a.length : Int) ≤ (1048576 : Int) / (b.length : Int) := by
            have h3 : (a.length : Int) * (b.length : Int) ≤ 1048576 := by
              have := Int.ofNat_le.2 hnm
              rw [Int.natCast_mul] at this
              omega
            exact (Int.le_ediv_iff_mul_le (by omega)).2 h3
          omega
    rw [hs0]
    exact ⟨cx.ext, World.ownsRow_nil _ _ _ _⟩
  have hq := hc34
  simp only [Bool.or_eq_false_iff, beq_eq_false_iff_ne, decide_eq_false_iff_not] at hq
  have hn0 : 0 < a.length := by have := hq.1.1; omega
  have hm0 : 0 < b.length := by have := hq.1.2; omega
  have hNM : a.length * b.length ≤ 40000 := hnm
  have hNN : (a.length + 1) * (b.length + 1) ≤ 52001 := by
    have e : (a.length + 1) * (b.length + 1) = a.length * b.length + a.length + b.length + 1 := by rw [Nat.add_mul, Nat.mul_add]; omega
    omega
  refine wp_skip ?_
  refine wp_seq ?_
  refine wp_region_lit ?_
  refine s_val rfl rfl (v_move rfl rfl) ?_
  refine s_val rfl rfl (v_move rfl rfl) ?_
  refine s_val rfl rfl (v_mulC (c := (a.length * b.length)) rfl rfl rfl rfl (by omega)) ?_
  refine s_make (bytes := 1) (nn := (a.length * b.length)) cx Try.underlying55 mk55 rfl rfl rfl rfl rfl (by omega) (by unfold maxLen; omega) ?_; intro q38 w cx hgr38 hq38
  obtain ⟨g1, rfl⟩ := hq38
  refine s_val rfl rfl (v_assign rfl rfl) ?_
  refine wpList_nil ?_
  refine wp_seq ?_
  refine wp_region_lit ?_
  refine s_val rfl rfl (v_move rfl rfl) ?_
  refine s_val rfl rfl (v_addQ rfl rfl rfl (r := ((a.length + 1 : Nat) : Int)) (by omega) (by omega) (by omega)) ?_
  refine s_val rfl rfl (v_move rfl rfl) ?_
  refine s_val rfl rfl (v_addQ rfl rfl rfl (r := ((b.length + 1 : Nat) : Int)) (by omega) (by omega) (by omega)) ?_
  refine s_val rfl rfl (v_mulC (c := ((a.length + 1) * (b.length + 1))) rfl rfl rfl rfl (by omega)) ?_
  refine s_make (bytes := 8) (nn := ((a.length + 1) * (b.length + 1))) cx Try.underlying82 mk82 rfl rfl rfl rfl rfl (by omega) (by unfold maxLen; omega) ?_; intro q44 w cx hgr44 hq44
  obtain ⟨g2, rfl⟩ := hq44
  refine s_val rfl rfl (v_assign rfl rfl) ?_
  refine wpList_nil ?_
  refine wp_seq ?_
  refine wp_seq ?_
  refine wp_region_lit ?_
  rw [show ([Value.int .i64 0].getD 0 undef) = Value.int .i64 0 from rfl, mkI_zero] at cx
  rw [show ([Value.bool false].getD 0 undef) = Value.bool false from rfl, mkB_zero] at cx
  refine s_val rfl rfl (v_move rfl rfl) ?_
  refine s_val rfl rfl (v_sub rfl rfl rfl (by omega) (by omega)) ?_
  refine s_val rfl rfl (v_assign rfl rfl) ?_
  refine wpList_nil ?_
  refine wp_block ?_
  refine w_loop (fun k f w1 => ∃ (ii : Nat) (F : Nat → Int) (G : Nat → Bool), k = ii ∧ f 0 = .slice a1 a.length c1 ∧ f 1 = .slice a2 b.length c2 ∧ f 2 = .int .i64 (p : Nat) ∧ f 7 = .int .i64 a.length ∧ f 8 = .int .i64 b.length ∧ f 9 = .slice (some ⟨g1, 0, none⟩) (a.length * b.length) (a.length * b.length) ∧ f 10 = .slice (some ⟨g2, 0, none⟩) ((a.length + 1) * (b.length + 1)) ((a.length + 1) * (b.length + 1)) ∧ f 11 = .int .i64 ((ii : Int) - 1) ∧ ii ≤ a.length ∧ TabI E a b F ii b.length ∧ TabB E a b G ii b.length ∧ ZerB b G ii b.length ∧ Cxr w0 w1 [] [⟨3, 1, .slice (some ⟨g2, 0, none⟩) ((a.length + 1) * (b.length + 1)) ((a.length + 1) * (b.length + 1)), ((a.length + 1) * (b.length + 1)), mkI F ((a.length + 1) * (b.length + 1))⟩, ⟨4, 1, .slice (some ⟨g1, 0, none⟩) (a.length * b.length) (a.length * b.length), (a.length * b.length), mkB G (a.length * b.length)⟩]) (a.length) ?_ ?_
  · skip
    exact ⟨a.length, _, _, rfl, rfl, rfl, rfl, rfl, rfl, rfl, rfl, rfl, by omega, TabI.start E a b, (fun i k hi hk h => by omega), (fun i k hk h => rfl), cx⟩
  intro gk7 f w hJ
  obtain ⟨ii, F, G, hki, hs0, hs1, hs2, hs7, hs8, hs9, hs10, hs11, hii, hT0, hTB0, hZ, cx⟩ := hJ
  refine wp_seq ?_
  refine wp_seq ?_
  refine wp_region_lit ?_
  refine s_val rfl rfl (v_move rfl hs11) ?_
  refine s_val rfl rfl (v_cmp rfl rfl rfl rfl) ?_
  refine wpList_nil ?_
  refine c_split rfl (fun hc48 => ?_) (fun hc48 => ?_)
  · skip
    try simp only [bsl] at hc48
    obtain ⟨i, rfl⟩ : ∃ i, ii = i + 1 := ⟨ii - 1, by omega⟩
    have hs11' : f 11 = .int .i64 (i : Nat) := by rw [hs11]; congr 1; omega
    refine wp_skip ?_
    refine wp_seq ?_
    refine wp_block ?_
    refine wp_seq ?_
    refine wp_region_lit ?_
    refine s_val rfl rfl (v_move rfl hs8) ?_
    refine s_val rfl rfl (v_sub rfl rfl rfl (by omega) (by omega)) ?_
    refine s_val rfl rfl (v_assign rfl rfl) ?_
    refine wpList_nil ?_
    refine wp_block ?_
    refine w_loop (fun k f w1 => ∃ (kk : Nat) (F : Nat → Int) (G : Nat → Bool), k = kk ∧ f 0 = .slice a1 a.length c1 ∧ f 1 = .slice a2 b.length c2 ∧ f 2 = .int .i64 (p : Nat) ∧ f 7 = .int .i64 a.length ∧ f 8 = .int .i64 b.length ∧ f 9 = .slice (some ⟨g1, 0, none⟩) (a.length * b.length) (a.length * b.length) ∧ f 10 = .slice (some ⟨g2, 0, none⟩) ((a.length + 1) * (b.length + 1)) ((a.length + 1) * (b.length + 1)) ∧ f 11 = .int .i64 (i : Nat) ∧ f 12 = .int .i64 ((kk : Int) - 1) ∧ kk ≤ b.length ∧ TabI E a b F (i + 1) kk ∧ TabB E a b G (i + 1) kk ∧ ZerB b G (i + 1) kk ∧ Cxr w0 w1 [] [⟨3, 1, .slice (some ⟨g2, 0, none⟩) ((a.length + 1) * (b.length + 1)) ((a.length + 1) * (b.length + 1)), ((a.length + 1) * (b.length + 1)), mkI F ((a.length + 1) * (b.length + 1))⟩, ⟨4, 1, .slice (some ⟨g1, 0, none⟩) (a.length * b.length) (a.length * b.length), (a.length * b.length), mkB G (a.length * b.length)⟩]) (b.length) ?_ ?_
    · skip
      exact ⟨b.length, F, G, rfl, hs0, hs1, hs2, hs7, hs8, hs9, hs10, hs11', rfl, by omega, hT0, hTB0, hZ, cx⟩
    intro gk10 f w hJ
    obtain ⟨kk, F, G, hkk, hs0, hs1, hs2, hs7, hs8, hs9, hs10, hs11, hs12, hkb, hT, hTB, hZ, cx⟩ := hJ
    refine wp_seq ?_
    refine wp_seq ?_
    refine wp_region_lit ?_
    refine s_val rfl rfl (v_move rfl hs12) ?_
    refine s_val rfl rfl (v_cmp rfl rfl rfl rfl) ?_
    refine wpList_nil ?_
    refine c_split rfl (fun hc54 => ?_) (fun hc54 => ?_)
    · skip
      try simp only [bsl] at hc54
      obtain ⟨k, rfl⟩ : ∃ k, kk = k + 1 := ⟨kk - 1, by omega⟩
      have hs12' : f 12 = .int .i64 (k : Nat) := by rw [hs12]; congr 1; omega
      obtain ⟨t0, ht0⟩ : ∃ t0, t0 = i * (b.length + 1) := ⟨_, rfl⟩
      obtain ⟨t1, ht1⟩ : ∃ t1, t1 = i * b.length := ⟨_, rfl⟩
      have hix0 := ix_lt (n := a.length) (m := b.length) (i := i) (k := k + 1) (by omega) (by omega)
      have hix1 := ix_lt (n := a.length) (m := b.length) (i := i + 1) (k := k + 1) (by omega) (by omega)
      have he1 : (i + 1) * (b.length + 1) = t0 + b.length + 1 := by rw [Nat.add_mul, ← ht0]; omega
      rw [← ht0] at hix0
      rw [he1] at hix1
      have hB1 : F (t0 + k + 1) = (mst E a b i (k + 1) : Int) := by
        have := hT i (k + 1) (by omega) (by omega) (.inr (.inl ⟨rfl, by omega⟩))
        rwa [← ht0, ← Nat.add_assoc] at this
      have hB2 : F (t0 + k + b.length + 1) = (mst E a b (i + 1) k : Int) := by
        have := hT (i + 1) k (by omega) (by omega) (.inl (by omega))
        rwa [he1, show t0 + b.length + 1 + k = t0 + k + b.length + 1 by omega] at this
      have hB3 : F (t0 + k + b.length + 2) = (mst E a b (i + 1) (k + 1) : Int) := by
        have := hT (i + 1) (k + 1) (by omega) (by omega) (.inl (by omega))
        rwa [he1, show t0 + b.length + 1 + (k + 1) = t0 + k + b.length + 2 by omega] at this
      have hst := mst_step E a b (i := i) (k := k) (by omega) (by omega)
      have hml := mst_le E a b _ i (k + 1) rfl
      have hml2 := mst_le E a b _ (i + 1) k rfl
      have hml3 := mst_le E a b _ (i + 1) (k + 1) rfl
      have ht1b : t1 + b.length ≤ a.length * b.length := by
        have := Nat.mul_le_mul_right b.length (show i + 1 ≤ a.length by omega)
        rw [Nat.add_mul, ← ht1] at this; omega
      have hge1 : a[i]? = some a[i] := List.getElem?_eq_getElem (by omega)
      have hge2 : b[k]? = some b[k] := List.getElem?_eq_getElem (by omega)
      have hgd1 : a.getD i nulV = a[i] := by rw [List.getD, hge1]; rfl
      have hgd2 : b.getD k nulV = b[k] := by rw [List.getD, hge2]; rfl
      obtain rfl := hfa1 (by omega)
      obtain rfl := hfa2 (by omega)
      obtain ⟨r1, hr1, hv1⟩ := hget1 i _ hge1
      obtain ⟨r2, hr2, hv2⟩ := hget2 k _ hge2
      refine wp_skip ?_
      refine wp_seq ?_
      refine wp_block ?_
      refine wp_seq ?_
      refine wp_region_lit ?_
      refine s_val rfl rfl (v_move rfl hs11) ?_
      refine s_val rfl rfl (v_move rfl hs8) ?_
      refine s_val rfl rfl (v_addQ rfl rfl rfl (r := ((b.length + 1 : Nat) : Int)) (by omega) (by omega) (by omega)) ?_
      refine s_val rfl rfl (v_mulC (c := t0) rfl rfl rfl ht0.symm (by omega)) ?_
      refine s_val rfl rfl (v_move rfl hs12') ?_
      refine s_val rfl rfl (v_addQ rfl rfl rfl (r := ((t0 + k : Nat) : Int)) (by omega) (by omega) (by omega)) ?_
      refine s_val rfl rfl (v_assign rfl rfl) ?_
      refine wpList_nil ?_
      refine wp_seq ?_
      refine w_ordF cx mixed [(0, 63), (1, 64), (2, 65), (3, 66), (4, 67), (5, 68), (6, 69), (7, 70), (8, 71), (9, 72), (10, 73), (11, 74), (12, 75), (13, 76), (14, 77), (15, 78)] #[true, true, true, true, true, true, true, true, true, true, true, true, true, true, true, true, false] (by kernel_rfl) (by kernel_rfl) (by kernel_rfl) (by kernel_rfl) ?_
      refine pu_one rfl (wnt_none rfl) (fun w cx => v_move rfl hs10) ?_
      refine pu_one rfl (wnt_none rfl) (fun w cx => v_move rfl rfl) ?_
      refine pu_one rfl (wnt_none rfl) (fun w cx => v_move rfl hs10) ?_
      refine pu_one rfl (wnt_none rfl) (fun w cx => v_move rfl rfl) ?_
      refine pu_one rfl (wnt_none rfl) (fun w cx => v_addQ rfl rfl rfl (r := ((t0 + k + 1 : Nat) : Int)) (by omega) (by omega) (by omega)) ?_
      refine pu_one rfl (wnt_none rfl) (fun w cx => v_ia Try.underlying82 sz3 rfl rfl rfl (by omega) (by omega)) ?_
      refine pu_one rfl (wnt_none rfl) (fun w cx => v_load1 rfl rfl Try.underlying3 rfl ((cx.rowAt (List.mem_cons_self ..) (by omega)) _ _ (by rw [Int.toNat_natCast, Nat.mul_one]; exact (mkI_at (by omega)).trans (by rw [hB1])))) ?_
      refine pu_one rfl (wnt_none rfl) (fun w cx => v_move rfl hs10) ?_
      refine pu_one rfl (wnt_none rfl) (fun w cx => v_move rfl rfl) ?_
      refine pu_one rfl (wnt_none rfl) (fun w cx => v_move rfl hs8) ?_
      refine pu_one rfl (wnt_none rfl) (fun w cx => v_addQ rfl rfl rfl (r := ((t0 + k + b.length : Nat) : Int)) (by omega) (by omega) (by omega)) ?_
      refine pu_one rfl (wnt_none rfl) (fun w cx => v_addQ rfl rfl rfl (r := ((t0 + k + b.length + 1 : Nat) : Int)) (by omega) (by omega) (by omega)) ?_
      refine pu_one rfl (wnt_none rfl) (fun w cx => v_ia Try.underlying82 sz3 rfl rfl rfl (by omega) (by omega)) ?_
      refine pu_one rfl (wnt_none rfl) (fun w cx => v_load1 rfl rfl Try.underlying3 rfl ((cx.rowAt (List.mem_cons_self ..) (by omega)) _ _ (by rw [Int.toNat_natCast, Nat.mul_one]; exact (mkI_at (by omega)).trans (by rw [hB2])))) ?_
      refine pu_one rfl (wnt_none rfl) (fun w cx => v_max rfl rfl rfl) ?_
      refine pu_one rfl (wnt_none rfl) (fun w cx => v_ia Try.underlying82 sz3 rfl rfl rfl (by omega) (by omega)) ?_
      refine pu_nil ?_; intro w cx hwD13
      refine x_one (i := 16) (by kernel_rfl) rfl ?_
      refine s_cell (v := .int .i64 (max (mst E a b i (k + 1) : Int) (mst E a b (i + 1) k : Int))) cx rfl rfl rfl rfl rfl rfl (by rw [mkI_len]; omega) sz3 ?_; intro w cx hg13
      rw [show (0 + ((t0 + k : Nat) : Int).toNat * 1) = t0 + k by rw [Int.toNat_natCast]; omega, mkI_set] at cx
      refine x_next ⟨.inr (by kernel_rfl), ?_⟩
      refine x_done (by kernel_rfl) ?_
      refine wp_seq ?_
      refine w_quiet cx mixed (by kernel_rfl) ?_
      refine q_val rfl rfl (fun w cx hwQ => v_move rfl hs0) ?_
      refine q_val rfl rfl (fun w cx hwQ => v_move rfl hs11) ?_
      refine q_val rfl rfl (fun w cx hwQ => v_ia Try.underlying30 sz33 rfl rfl rfl (by omega) (by omega)) ?_
      refine q_val rfl rfl (fun w cx hwQ => v_load rfl rfl Try.underlying33 rfl sz33 (hr1.up cx.ext) hv1.len) ?_
      refine q_val rfl rfl (fun w cx hwQ => v_move rfl hs1) ?_
      refine q_val rfl rfl (fun w cx hwQ => v_move rfl hs12') ?_
      refine q_val rfl rfl (fun w cx hwQ => v_ia Try.underlying30 sz33 rfl rfl rfl (by omega) (by omega)) ?_
      refine q_val rfl rfl (fun w cx hwQ => v_load rfl rfl Try.underlying33 rfl sz33 (hr2.up cx.ext) hv2.len) ?_
      refine q_call rfl rfl (runs_fn Try.func53 rfl rfl rfl rfl) (fun w cx hwQ => (c53 48 _ _ _ _ _ (by omega) (hoa _ (List.getElem_mem _)).1 (hob _ (List.getElem_mem _)).1 (hoa _ (List.getElem_mem _)).2 (hob _ (List.getElem_mem _)).2 (hv1.up cx.ext) (hv2.up cx.ext)).det fun b hb => Bool.eq_iff_iff.2 (hb.trans (hE _ _).symm)) ?_
      refine q_nil ?_; rintro w ⟨cx, hwQ14⟩
      refine c_split rfl (fun hc87 => ?_) (fun hc87 => ?_)
      · skip
        refine wp_seq ?_
        refine wp_region_lit ?_
        refine s_val rfl rfl (v_move rfl hs9) ?_
        refine s_val rfl rfl (v_move rfl hs11) ?_
        refine s_val rfl rfl (v_move rfl hs8) ?_
        refine s_val rfl rfl (v_mulC (c := t1) rfl rfl rfl ht1.symm (by omega)) ?_
        refine s_val rfl rfl (v_move rfl hs12') ?_
        refine s_val rfl rfl (v_addQ rfl rfl rfl (r := ((t1 + k : Nat) : Int)) (by omega) (by omega) (by omega)) ?_
        refine s_val rfl rfl (v_ia Try.underlying55 sz4 rfl rfl rfl (by omega) (by omega)) ?_
        replace cx := cx.swap
        refine s_cell (v := .bool true) cx rfl rfl rfl rfl rfl rfl (by rw [mkB_len]; omega) sz4 ?_; intro w cx hg15
        rw [show (0 + ((t1 + k : Nat) : Int).toNat * 1) = t1 + k by rw [Int.toNat_natCast]; omega, mkB_set] at cx
        replace cx := cx.swap
        refine wpList_nil ?_
        refine w_ordF cx mixed [(0, 95), (1, 96), (2, 97), (3, 98), (4, 99), (5, 100), (6, 101), (7, 102), (8, 103), (9, 104), (10, 105), (11, 106), (12, 107), (13, 108), (14, 109), (15, 110)] #[true, true, true, true, true, true, true, true, true, true, true, true, true, true, true, true, false] (by kernel_rfl) (by kernel_rfl) (by kernel_rfl) (by kernel_rfl) ?_
        refine pu_one rfl (wnt_none rfl) (fun w cx => v_move rfl hs10) ?_
        refine pu_one rfl (wnt_none rfl) (fun w cx => v_move rfl rfl) ?_
        refine pu_one rfl (wnt_none rfl) (fun w cx => v_move rfl hs10) ?_
        refine pu_one rfl (wnt_none rfl) (fun w cx => v_move rfl rfl) ?_
        refine pu_one rfl (wnt_none rfl) (fun w cx => v_ia Try.underlying82 sz3 rfl rfl rfl (by omega) (by omega)) ?_
        refine pu_one rfl (wnt_none rfl) (fun w cx => v_load1 rfl rfl Try.underlying3 rfl ((cx.rowAt (List.mem_cons_self ..) (by omega)) _ _ (by rw [Int.toNat_natCast, Nat.mul_one]; exact (mkI_at (by omega)).trans (by rw [if_pos rfl])))) ?_
        refine pu_one rfl (wnt_none rfl) (fun w cx => v_move rfl hs10) ?_
        refine pu_one rfl (wnt_none rfl) (fun w cx => v_move rfl rfl) ?_
        refine pu_one rfl (wnt_none rfl) (fun w cx => v_move rfl hs8) ?_
        refine pu_one rfl (wnt_none rfl) (fun w cx => v_addQ rfl rfl rfl (r := ((t0 + k + b.length : Nat) : Int)) (by omega) (by omega) (by omega)) ?_
        refine pu_one rfl (wnt_none rfl) (fun w cx => v_addQ rfl rfl rfl (r := ((t0 + k + b.length + 2 : Nat) : Int)) (by omega) (by omega) (by omega)) ?_
        refine pu_one rfl (wnt_none rfl) (fun w cx => v_ia Try.underlying82 sz3 rfl rfl rfl (by omega) (by omega)) ?_
        refine pu_one rfl (wnt_none rfl) (fun w cx => v_load1 rfl rfl Try.underlying3 rfl ((cx.rowAt (List.mem_cons_self ..) (by omega)) _ _ (by rw [Int.toNat_natCast, Nat.mul_one]; exact (mkI_at (by omega)).trans (by rw [if_neg (by omega), hB3])))) ?_
        refine pu_one rfl (wnt_none rfl) (fun w cx => v_add rfl rfl rfl (by omega) (by omega)) ?_
        refine pu_one rfl (wnt_none rfl) (fun w cx => v_max rfl rfl rfl) ?_
        refine pu_one rfl (wnt_none rfl) (fun w cx => v_ia Try.underlying82 sz3 rfl rfl rfl (by omega) (by omega)) ?_
        refine pu_nil ?_; intro w cx hwD16
        refine x_one (i := 16) (by kernel_rfl) rfl ?_
        refine s_cell (v := .int .i64 (max (max (mst E a b i (k + 1) : Int) (mst E a b (i + 1) k : Int)) ((mst E a b (i + 1) (k + 1) : Int) + 1))) cx rfl rfl rfl rfl rfl rfl (by rw [mkI_len]; omega) sz3 ?_; intro w cx hg16
        rw [show (0 + ((t0 + k : Nat) : Int).toNat * 1) = t0 + k by rw [Int.toNat_natCast]; omega, mkI_set] at cx
        refine x_next ⟨.inr (by kernel_rfl), ?_⟩
        refine x_done (by kernel_rfl) ?_
        refine wp_region_lit ?_
        refine s_val rfl rfl (v_move rfl hs12) ?_
        refine s_val rfl rfl (v_sub rfl rfl rfl (by omega) (by omega)) ?_
        refine s_val rfl rfl (v_assign rfl rfl) ?_
        refine wpList_nil ?_
        have hEt : E a[i] b[k] = true := hc87
        rw [ht1] at cx
        refine ⟨k, _, by omega, rfl, k, _, _, rfl, hs0, hs1, hs2, hs7, hs8, hs9, hs10, hs11, by show Value.int .i64 _ = _; congr 1 <;> omega, by omega, ?_, hTB.next (by omega) (by rw [hgd1, hgd2]; exact hEt), hZ.next (by omega), cx⟩
        intro i' k' hi' hk' hh
        have := (hT.next (by omega) (by omega) (v := max (max (mst E a b i (k + 1) : Int) (mst E a b (i + 1) k : Int)) ((mst E a b (i + 1) (k + 1) : Int) + 1)) (by rw [hst, if_pos hEt]; omega)) i' k' hi' hk' hh
        rw [← ht0] at this
        rw [← this]
        by_cases hx : i' * (b.length + 1) + k' = t0 + k <;> simp [hx]
      refine wp_skip ?_
      refine wp_region_lit ?_
      refine s_val rfl rfl (v_move rfl hs12) ?_
      refine s_val rfl rfl (v_sub rfl rfl rfl (by omega) (by omega)) ?_
      refine s_val rfl rfl (v_assign rfl rfl) ?_
      refine wpList_nil ?_
      have hEf : ¬ E a[i] b[k] = true := by intro h; have h2 : E a[i] b[k] = false := hc87; rw [h2] at h; cases h
      refine ⟨k, _, by omega, rfl, k, _, G, rfl, hs0, hs1, hs2, hs7, hs8, hs9, hs10, hs11, by show Value.int .i64 _ = _; congr 1 <;> omega, by omega, ?_, hTB.keep hZ (by omega) (by rw [hgd1, hgd2]; exact hc87), hZ.keep, cx⟩
      intro i' k' hi' hk' hh
      have := (hT.next (by omega) (by omega) (v := max (mst E a b i (k + 1) : Int) (mst E a b (i + 1) k : Int)) (by rw [hst, if_neg hEf]; omega)) i' k' hi' hk' hh
      rw [← ht0] at this
      exact this
    try simp only [bsl] at hc54
    obtain rfl : kk = 0 := by omega
    refine wp_exit ?_
    refine wp_region_lit ?_
    refine s_val rfl rfl (v_move rfl hs11) ?_
    refine s_val rfl rfl (v_sub rfl rfl rfl (by omega) (by omega)) ?_
    refine s_val rfl rfl (v_assign rfl rfl) ?_
    refine wpList_nil ?_
    exact ⟨i, _, by omega, rfl, i, F, G, rfl, hs0, hs1, hs2, hs7, hs8, hs9, hs10, by show Value.int .i64 _ = _; congr 1 <;> omega, by omega, hT.row _ (Nat.le_refl _), hTB.row, hZ.row, cx⟩
  try simp only [bsl] at hc48
  obtain rfl : ii = 0 := by omega
  refine wp_exit ?_
  refine wp_seq ?_
  refine wp_region_lit ?_
  refine s_val rfl rfl (v_assign rfl rfl) ?_
  refine wpList_nil ?_
  refine wp_seq ?_
  refine wp_region_lit ?_
  replace cx := cx.nilRow 43 2
  have hTB := hTB0
  have hT := hT0
  refine s_val rfl rfl (v_assign rfl rfl) ?_
  refine wpList_nil ?_
  refine wp_seq ?_
  refine wp_seq ?_
  refine wp_region_lit ?_
  refine s_val rfl rfl (v_assign rfl rfl) ?_
  refine wpList_nil ?_
  refine wp_block ?_
  refine w_loop (fun k f w1 => ∃ (i fr : Nat) (pre : List (Nat × Nat)) (x : Value), k + i = a.length ∧ f 0 = .slice a1 a.length c1 ∧ f 1 = .slice a2 b.length c2 ∧ f 2 = .int .i64 (p : Nat) ∧ f 7 = .int .i64 a.length ∧ f 8 = .int .i64 b.length ∧ f 9 = .slice (some ⟨g1, 0, none⟩) (a.length * b.length) (a.length * b.length) ∧ f 10 = .slice (some ⟨g2, 0, none⟩) ((a.length + 1) * (b.length + 1)) ((a.length + 1) * (b.length + 1)) ∧ f 14 = x ∧ f 15 = .int .i64 (fr : Nat) ∧ f 16 = .int .i64 (i : Nat) ∧ fr ≤ b.length ∧ pre.length ≤ i ∧ pre ++ sel E a b (a.length - i) i fr = sel E a b a.length 0 0 ∧ Cxr w0 w1 [] [⟨43, 2, x, pre.length, pre.flatMap (prow p)⟩, ⟨3, 1, .slice (some ⟨g2, 0, none⟩) ((a.length + 1) * (b.length + 1)) ((a.length + 1) * (b.length + 1)), ((a.length + 1) * (b.length + 1)), mkI F ((a.length + 1) * (b.length + 1))⟩, ⟨4, 1, .slice (some ⟨g1, 0, none⟩) (a.length * b.length) (a.length * b.length), (a.length * b.length), mkB G (a.length * b.length)⟩]) (a.length) ?_ ?_
  · skip
    exact ⟨0, 0, [], _, by omega, hs0, hs1, hs2, hs7, hs8, hs9, hs10, rfl, rfl, rfl, by omega, by simp, rfl, cx⟩
  intro gk20 f w hJ
  obtain ⟨i, fr, pre, x, hki, hs0, hs1, hs2, hs7, hs8, hs9, hs10, hs14, hs15, hs16, hfr, hpl, hpre, cx⟩ := hJ
  refine wp_seq ?_
  refine wp_seq ?_
  refine wp_region_lit ?_
  refine s_val rfl rfl (v_move rfl hs16) ?_
  refine s_val rfl rfl (v_move rfl hs7) ?_
  refine s_val rfl rfl (v_cmp rfl rfl rfl rfl) ?_
  refine s_val rfl rfl (v_move rfl rfl) ?_
  refine s_gval rfl rfl rfl wT (fun hc => v_move rfl hs15) ?_
  refine s_gval rfl rfl rfl wT (fun hc => v_move rfl hs8) ?_
  refine s_gval rfl rfl rfl wT (fun hc => v_cmp rfl (by first | exact gve hc rfl | exact gve (and_l hc) rfl | exact gve (and_l (and_l hc)) rfl | rfl) (by first | exact gve hc rfl | exact gve (and_l hc) rfl | exact gve (and_l (and_l hc)) rfl | rfl) rfl) ?_
  refine s_val rfl rfl (v_and rfl rfl rfl rfl) ?_
  refine wpList_nil ?_
  refine c_split rfl (fun hc118 => ?_) (fun hc118 => ?_)
  · skip
    try simp only [bsl] at hc118
    obtain ⟨hci, hcf⟩ := hc118
    obtain ⟨t0, ht0⟩ : ∃ t0, t0 = i * (b.length + 1) := ⟨_, rfl⟩
    obtain ⟨t1, ht1⟩ : ∃ t1, t1 = i * b.length := ⟨_, rfl⟩
    have hix0 := ix_lt (n := a.length) (m := b.length) (i := i) (k := fr) (by omega) (by omega)
    rw [← ht0] at hix0
    have he1 : (i + 1) * (b.length + 1) = t0 + b.length + 1 := by rw [Nat.add_mul, ← ht0]; omega
    have ht1b : t1 + b.length ≤ a.length * b.length := by
      have := Nat.mul_le_mul_right b.length (show i + 1 ≤ a.length by omega)
      rw [Nat.add_mul, ← ht1] at this; omega
    have hB0 : F (t0 + fr) = (mst E a b i fr : Int) := by
      have := hT i fr (by omega) (by omega) (.inl (by omega))
      rwa [← ht0] at this
    have hml := mst_le E a b _ i fr rfl
    have hix2 := ix_lt (n := a.length) (m := b.length) (i := i + 1) (k := b.length) (by omega) (by omega)
    rw [he1] at hix2
    refine wp_skip ?_
    refine wp_seq ?_
    refine wp_block ?_
    refine wp_seq ?_
    refine wp_region_lit ?_
    refine s_val rfl rfl (v_move rfl hs10) ?_
    refine s_val rfl rfl (v_move rfl hs16) ?_
    refine s_val rfl rfl (v_move rfl hs8) ?_
    refine s_val rfl rfl (v_addQ rfl rfl rfl (r := ((b.length + 1 : Nat) : Int)) (by omega) (by omega) (by omega)) ?_
    refine s_val rfl rfl (v_mulC (c := t0) rfl rfl rfl ht0.symm (by omega)) ?_
    refine s_val rfl rfl (v_move rfl hs15) ?_
    refine s_val rfl rfl (v_addQ rfl rfl rfl (r := ((t0 + fr : Nat) : Int)) (by omega) (by omega) (by omega)) ?_
    refine s_val rfl rfl (v_ia Try.underlying82 sz3 rfl rfl rfl (by omega) (by omega)) ?_
    refine s_val rfl rfl (v_load1 rfl rfl Try.underlying3 rfl ((cx.rowAt (List.mem_cons_of_mem _ (List.mem_cons_self ..)) (by omega)) _ _ (by rw [Int.toNat_natCast, Nat.mul_one]; exact (mkI_at (by omega)).trans (by rw [hB0])))) ?_
    refine s_val rfl rfl (v_assign rfl rfl) ?_
    refine wpList_nil ?_
    refine wp_seq ?_
    refine wp_seq ?_
    refine wp_region_lit ?_
    refine s_val rfl rfl (v_move rfl rfl) ?_
    refine s_val rfl rfl (v_cmp rfl rfl rfl rfl) ?_
    refine wpList_nil ?_
    refine c_split rfl (fun hc131 => ?_) (fun hc131 => ?_)
    · skip
      try simp only [bsl] at hc131
      refine wp_exit ?_
      refine wp_seq ?_
      refine wp_region_lit ?_
      refine s_val rfl rfl (v_move rfl hs14) ?_
      refine s_val rfl rfl (v_assign rfl rfl) ?_
      refine wpList_nil ?_
      refine wp_ret ?_
      refine ret_tmp Try.results54 rfl ?_
      have hfin : pre = sel E a b a.length 0 0 := by
        have h0 : sel E a b (a.length - i) i fr = [] := by
          cases hd : a.length - i with
          | zero => rfl
          | succ d =>
            unfold sel
            rw [if_neg]
            rintro ⟨_, h1⟩
            exact h1 (by omega)
        rw [h0, List.append_nil] at hpre
        exact hpre
      subst hfin
      exact ⟨cx.ext, cx.head⟩
    try simp only [bsl] at hc131
    have hne0 : mst E a b i fr ≠ 0 := by omega
    obtain ⟨dd, hdd⟩ : ∃ dd, a.length - i = dd + 1 := ⟨a.length - i - 1, by omega⟩
    have hsel : sel E a b (dd + 1) i fr = match (List.range b.length).find? (prt E a b i fr) with
          | some k => (i, k) :: sel E a b dd (i + 1) (k + 1)
          | none => sel E a b dd (i + 1) fr := by
      conv => lhs; unfold sel
      rw [if_pos ⟨by omega, hne0⟩]
      try rfl
    refine wp_skip ?_
    refine wp_seq ?_
    refine wp_region_lit ?_
    refine s_val rfl rfl (v_move rfl hs15) ?_
    refine s_val rfl rfl (v_assign rfl rfl) ?_
    refine wpList_nil ?_
    refine wp_block ?_
    refine w_loop (fun kq f w1 => ∃ k : Nat, kq + k = b.length ∧ fr ≤ k ∧ f 0 = .slice a1 a.length c1 ∧ f 1 = .slice a2 b.length c2 ∧ f 2 = .int .i64 (p : Nat) ∧ f 7 = .int .i64 a.length ∧ f 8 = .int .i64 b.length ∧ f 9 = .slice (some ⟨g1, 0, none⟩) (a.length * b.length) (a.length * b.length) ∧ f 10 = .slice (some ⟨g2, 0, none⟩) ((a.length + 1) * (b.length + 1)) ((a.length + 1) * (b.length + 1)) ∧ f 14 = x ∧ f 15 = .int .i64 (fr : Nat) ∧ f 16 = .int .i64 (i : Nat) ∧ f 17 = .int .i64 (mst E a b i fr : Nat) ∧ f 18 = .int .i64 (k : Nat) ∧ (∀ j, fr ≤ j → j < k → prt E a b i fr j = false) ∧ Cxr w0 w1 [] [⟨43, 2, x, pre.length, pre.flatMap (prow p)⟩, ⟨3, 1, .slice (some ⟨g2, 0, none⟩) ((a.length + 1) * (b.length + 1)) ((a.length + 1) * (b.length + 1)), ((a.length + 1) * (b.length + 1)), mkI F ((a.length + 1) * (b.length + 1))⟩, ⟨4, 1, .slice (some ⟨g1, 0, none⟩) (a.length * b.length) (a.length * b.length), (a.length * b.length), mkB G (a.length * b.length)⟩]) (b.length - fr) ?_ ?_
    · skip
      exact ⟨fr, by omega, by omega, hs0, hs1, hs2, hs7, hs8, hs9, hs10, hs14, hs15, hs16, rfl, rfl, fun j h1 h2 => by omega, cx⟩
    intro gk25 f w hJ
    obtain ⟨k, hkq, hfk, hs0, hs1, hs2, hs7, hs8, hs9, hs10, hs14, hs15, hs16, hs17, hs18, hno, cx⟩ := hJ
    refine wp_seq ?_
    refine wp_seq ?_
    refine wp_region_lit ?_
    refine s_val rfl rfl (v_move rfl hs18) ?_
    refine s_val rfl rfl (v_move rfl hs8) ?_
    refine s_val rfl rfl (v_cmp rfl rfl rfl rfl) ?_
    refine wpList_nil ?_
    refine c_split rfl (fun hc135 => ?_) (fun hc135 => ?_)
    · skip
      try simp only [bsl] at hc135
      have hB4 : F (t0 + b.length + 1 + k + 1) = (mst E a b (i + 1) (k + 1) : Int) := by
        have := hT (i + 1) (k + 1) (by omega) (by omega) (.inl (by omega))
        rwa [he1, ← Nat.add_assoc] at this
      have hml5 := mst_le E a b _ (i + 1) (k + 1) rfl
      have hG := hTB i k (by omega) (by omega) (.inl (by omega))
      rw [← ht1] at hG
      have hprt : (E (a.getD i nulV) (b.getD k nulV) && ((mst E a b (i + 1) (k + 1) : Int) + 1 == (mst E a b i fr : Int))) = prt E a b i fr k := by
        unfold prt
        rw [decide_eq_true (by omega : fr ≤ k), Bool.true_and]
        congr 1
        rw [Bool.eq_iff_iff]
        simp only [beq_iff_eq, decide_eq_true_eq]
        omega
      refine wp_skip ?_
      refine wp_seq ?_
      refine wp_block ?_
      refine wp_seq ?_
      refine wp_region_lit ?_
      refine s_val rfl rfl (v_move rfl hs9) ?_
      refine s_val rfl rfl (v_move rfl hs16) ?_
      refine s_val rfl rfl (v_move rfl hs8) ?_
      refine s_val rfl rfl (v_mulC (c := t1) rfl rfl rfl ht1.symm (by omega)) ?_
      refine s_val rfl rfl (v_move rfl hs18) ?_
      refine s_val rfl rfl (v_addQ rfl rfl rfl (r := ((t1 + k : Nat) : Int)) (by omega) (by omega) (by omega)) ?_
      refine s_val rfl rfl (v_ia Try.underlying55 sz4 rfl rfl rfl (by omega) (by omega)) ?_
      refine s_val rfl rfl (v_load1 rfl rfl Try.underlying4 rfl ((cx.rowAt (List.mem_cons_of_mem _ (List.mem_cons_of_mem _ (List.mem_cons_self ..))) (by omega)) _ _ (by rw [Int.toNat_natCast, Nat.mul_one]; exact (mkB_at (by omega)).trans (by rw [hG])))) ?_
      refine s_val rfl rfl (v_move rfl rfl) ?_
      refine s_gval rfl rfl rfl wT (fun hc => v_move rfl hs10) ?_
      refine s_gval rfl rfl rfl wT (fun hc => v_move rfl hs16) ?_
      refine s_gval rfl rfl rfl wT (fun hc => v_addQ rfl (gve hc rfl) rfl (r := ((i + 1 : Nat) : Int)) (by omega) (by omega) (by omega)) ?_
      refine s_gval rfl rfl rfl wT (fun hc => v_move rfl hs8) ?_
      refine s_gval rfl rfl rfl wT (fun hc => v_addQ rfl (gve hc rfl) rfl (r := ((b.length + 1 : Nat) : Int)) (by omega) (by omega) (by omega)) ?_
      refine s_gval rfl rfl rfl wT (fun hc => v_mulC (c := t0 + b.length + 1) rfl (gve hc rfl) (gve hc rfl) he1 (by omega)) ?_
      refine s_gval rfl rfl rfl wT (fun hc => v_move rfl hs18) ?_
      refine s_gval rfl rfl rfl wT (fun hc => v_addQ rfl (gve hc rfl) (gve hc rfl) (r := ((t0 + b.length + 1 + k : Nat) : Int)) (by omega) (by omega) (by omega)) ?_
      refine s_gval rfl rfl rfl wT (fun hc => v_addQ rfl (gve hc rfl) rfl (r := ((t0 + b.length + 1 + k + 1 : Nat) : Int)) (by omega) (by omega) (by omega)) ?_
      refine s_gval rfl rfl rfl wT (fun hc => v_ia Try.underlying82 sz3 rfl (gve hc rfl) (gve hc rfl) (by omega) (by omega)) ?_
      refine s_gval rfl rfl rfl wT (fun hc => v_load1 rfl (gve hc rfl) Try.underlying3 rfl ((cx.rowAt (List.mem_cons_of_mem _ (List.mem_cons_self ..)) (by omega)) _ _ (by rw [Int.toNat_natCast, Nat.mul_one]; exact (mkI_at (by omega)).trans (by rw [hB4])))) ?_
      refine s_gval rfl rfl rfl wT (fun hc => v_add rfl (gve hc rfl) rfl (by omega) (by omega)) ?_
      refine s_gval rfl rfl rfl wT (fun hc => v_move rfl hs17) ?_
      refine s_gval rfl rfl rfl wT (fun hc => v_cmp rfl (by first | exact gve hc rfl | exact gve (and_l hc) rfl | exact gve (and_l (and_l hc)) rfl | rfl) (by first | exact gve hc rfl | exact gve (and_l hc) rfl | exact gve (and_l (and_l hc)) rfl | rfl) rfl) ?_
      refine s_val rfl rfl (v_and rfl rfl rfl rfl) ?_
      refine wpList_nil ?_
      refine c_split rfl (fun hc161 => ?_) (fun hc161 => ?_)
      · skip
        rw [hprt] at hc161
        have hfn : (List.range b.length).find? (prt E a b i fr) = some k := find_first (by omega) hc161 fun j hj => by
          rcases Nat.lt_or_ge j fr with h | h
          · unfold prt; rw [decide_eq_false (by omega)]; rfl
          · exact hno j h hj
        refine wp_seq ?_
        refine wp_region_lit ?_
        refine s_val rfl rfl (v_move rfl hs14) ?_
        refine s_val rfl rfl (v_move rfl hs2) ?_
        refine s_val rfl rfl (v_move rfl hs16) ?_
        refine s_val rfl rfl (v_addQ rfl rfl rfl (r := ((p + i : Nat) : Int)) (by omega) (by omega) (by omega)) ?_
        refine s_val rfl rfl (v_move rfl hs2) ?_
        refine s_val rfl rfl (v_move rfl hs18) ?_
        refine s_val rfl rfl (v_addQ rfl rfl rfl (r := ((p + k : Nat) : Int)) (by omega) (by omega) (by omega)) ?_
        refine s_val rfl rfl (v_build (bd43 _ _) rfl rfl) ?_
        refine s_bsl1 cx Try.underlying41 sz43 z43 rfl rfl rfl rfl rfl rfl rfl rfl ?_; intro b170 w cx hb170 hw170
        refine s_appendG (m := 1) cx ei43 Try.underlying41 rfl rfl rfl rfl rfl (cx.row 0 rfl) rfl rfl (by omega) ?_; intro v171 w cx hgr171 hnw171
        replace cx := cx.drop 1
        refine s_val rfl rfl (v_assign rfl rfl) ?_
        refine wpList_nil ?_
        refine wp_seq ?_
        refine wp_region_lit ?_
        refine s_val rfl rfl (v_move rfl hs18) ?_
        refine s_val rfl rfl (v_add rfl rfl rfl (by omega) (by omega)) ?_
        refine s_val rfl rfl (v_assign rfl rfl) ?_
        refine wpList_nil ?_
        refine wp_exit ?_
        refine wp_region_lit ?_
        refine s_val rfl rfl (v_move rfl hs16) ?_
        refine s_val rfl rfl (v_add rfl rfl rfl (by omega) (by omega)) ?_
        refine s_val rfl rfl (v_assign rfl rfl) ?_
        refine wpList_nil ?_
        rw [hdd, hsel, hfn] at hpre
        refine ⟨gk20 - 1, _, by omega, rfl, i + 1, k + 1, pre ++ [(i, k)], v171, by omega, hs0, hs1, hs2, hs7, hs8, hs9, hs10, rfl, rfl, rfl, by omega, by simp; omega, ?_, ?_⟩
        · rw [show a.length - (i + 1) = dd by omega, List.append_assoc]
          exact hpre
        · rw [List.flatMap_append, List.length_append]
          exact cx
      rw [hprt] at hc161
      refine wp_skip ?_
      refine wp_region_lit ?_
      refine s_val rfl rfl (v_move rfl hs18) ?_
      refine s_val rfl rfl (v_add rfl rfl rfl (by omega) (by omega)) ?_
      refine s_val rfl rfl (v_assign rfl rfl) ?_
      refine wpList_nil ?_
      refine ⟨gk25 - 1, _, by omega, rfl, k + 1, by omega, by omega, hs0, hs1, hs2, hs7, hs8, hs9, hs10, hs14, hs15, hs16, hs17, rfl, fun j h1 h2 => ?_, cx⟩
      rcases Nat.lt_or_ge j k with h | h
      · exact hno j h1 h
      · obtain rfl : j = k := by omega
        exact hc161
    try simp only [bsl] at hc135
    have hfn : (List.range b.length).find? (prt E a b i fr) = none := find_no fun j hj => by
      rcases Nat.lt_or_ge j fr with h | h
      · unfold prt; rw [decide_eq_false (by omega)]; rfl
      · exact hno j h (by omega)
    refine wp_exit ?_
    refine wp_region_lit ?_
    refine s_val rfl rfl (v_move rfl hs16) ?_
    refine s_val rfl rfl (v_add rfl rfl rfl (by omega) (by omega)) ?_
    refine s_val rfl rfl (v_assign rfl rfl) ?_
    refine wpList_nil ?_
    rw [hdd, hsel, hfn] at hpre
    exact ⟨gk20 - 1, _, by omega, rfl, i + 1, fr, pre, x, by omega, hs0, hs1, hs2, hs7, hs8, hs9, hs10, hs14, hs15, rfl, by omega, by omega, by rw [show a.length - (i + 1) = dd by omega]; exact hpre, cx⟩
  try simp only [bsl] at hc118
  refine wp_exit ?_
  refine wp_seq ?_
  refine wp_region_lit ?_
  refine s_val rfl rfl (v_move rfl hs14) ?_
  refine s_val rfl rfl (v_assign rfl rfl) ?_
  refine wpList_nil ?_
  refine wp_ret ?_
  refine ret_tmp Try.results54 rfl ?_
  have hfin : pre = sel E a b a.length 0 0 := by
    have h0 : sel E a b (a.length - i) i fr = [] := by
      cases hd : a.length - i with
      | zero => rfl
      | succ d =>
        unfold sel
        rw [if_neg]
        rintro ⟨h1, _⟩
        rcases hc118 with h | h <;> omega
    rw [h0, List.append_nil] at hpre
    exact hpre
  subst hfin
  exact ⟨cx.ext, cx.head⟩
end Go.Proofs.Ytmkihcdcgkdilaa
end
section
namespace Go.Proofs.Ytmkihcdcgkdilaa
open Go Go.Dk Go.RowKit
set_option linter.unusedSimpArgs false
set_option linter.unusedVariables false
attribute [local irreducible] Go.wpList Go.Code.wp Go.bodyPost Go.wpStill Go.wpQuiet
theorem get_opt {w : World} {b : List V} {b2 o2 : Nat} (hget : ∀ (i : Nat) (v : V), b[i]? = some v → ∃ r, RowAt w b2 (o2 + i * 13) r ∧ Val w v r) (k : Nat) : ∃ r, k < b.length → RowAt w b2 (o2 + k * 13) r ∧ Val w (b.getD k nulV) r := by
  by_cases h : k < b.length
  · obtain ⟨r, hr⟩ := hget k _ (List.getElem?_eq_getElem h)
    refine ⟨r, fun _ => ?_⟩
    rw [List.getD, List.getElem?_eq_getElem h]
    exact hr
  · exact ⟨[], fun h' => absurd h' h⟩
theorem fine_getD {b : List V} {Q : V → Prop} (h : ∀ x ∈ b, Q x) {k : Nat} (hk : k < b.length) : Q (b.getD k nulV) := by
  rw [List.getD, List.getElem?_eq_getElem hk]
  exact h _ (List.getElem_mem hk)
end Go.Proofs.Ytmkihcdcgkdilaa
end
section
set_option linter.unusedVariables false
set_option linter.unusedSimpArgs false
namespace Go.Dk
open Go Go.RowKit
def upw (q : Nat → Bool) : Nat → Nat → Nat
  | 0, p => p
  | d + 1, p => if q p then upw q d (p + 1) else p
theorem upw_le (q : Nat → Bool) : ∀ d p, upw q d p ≤ p + d
  | 0, p => by simp [upw]
  | d + 1, p => by
    unfold upw
    split
    · have := upw_le q d (p + 1); omega
    · omega
theorem upw_bd {q : Nat → Bool} {m : Nat} (h : ∀ j, q j = true → j < m) : ∀ d p, p ≤ m → upw q d p ≤ m
  | 0, p, hp => by simpa [upw] using hp
  | d + 1, p, hp => by
    unfold upw
    split
    · rename_i hq
      exact upw_bd h d (p + 1) (h p hq)
    · exact hp
theorem upw_yes {q : Nat → Bool} {d p : Nat} (h : q p = true) : upw q (d + 1) p = upw q d (p + 1) := by
  conv => lhs; unfold upw
  rw [if_pos h]
theorem upw_no {q : Nat → Bool} {d p : Nat} (h : d = 0 ∨ q p = false) : upw q d p = p := by
  cases d with
  | zero => rfl
  | succ d =>
    unfold upw
    rcases h with h | h
    · cases h
    · rw [h]; rfl
theorem upw_all {q : Nat → Bool} : ∀ d p j, p ≤ j → j < upw q d p → q j = true
  | 0, p, j, h1, h2 => by simp [upw] at h2; omega
  | d + 1, p, j, h1, h2 => by
    by_cases hq : q p = true
    · rw [upw_yes hq] at h2
      rcases Nat.eq_or_lt_of_le h1 with e | hl
      · subst e; exact hq
      · exact upw_all d (p + 1) j hl h2
    · rw [upw_no (.inr (by simpa using hq))] at h2; omega
def qPre (E : V → V → Bool) (a b : List V) (p : Nat) : Bool := decide (p < b.length) && E (a.getD p nulV) (b.getD p nulV)
def nPre (E : V → V → Bool) (a b : List V) : Nat := upw (qPre E a b) a.length 0
def qSuf (E : V → V → Bool) (a b : List V) (P s : Nat) : Bool := decide (s < b.length - P) && E (a.getD (a.length - 1 - s) nulV) (b.getD (b.length - 1 - s) nulV)
def nSuf (E : V → V → Bool) (a b : List V) : Nat := upw (qSuf E a b (nPre E a b)) (a.length - nPre E a b) 0
theorem nPre_a (E : V → V → Bool) (a b : List V) : nPre E a b ≤ a.length := by
  have := upw_le (qPre E a b) a.length 0; unfold nPre; omega
theorem nPre_b (E : V → V → Bool) (a b : List V) : nPre E a b ≤ b.length := upw_bd (fun j h => by simp [qPre] at h; exact h.1) _ _ (by omega)
theorem nSuf_a (E : V → V → Bool) (a b : List V) : nSuf E a b ≤ a.length - nPre E a b := by
  have := upw_le (qSuf E a b (nPre E a b)) (a.length - nPre E a b) 0; unfold nSuf; omega
theorem nSuf_b (E : V → V → Bool) (a b : List V) : nSuf E a b ≤ b.length - nPre E a b := upw_bd (fun j h => by simp [qSuf] at h; exact h.1) _ _ (by omega)
def midL (l : List V) (p s : Nat) : List V := (l.drop p).take (l.length - s - p)
theorem midL_len {l : List V} {p s : Nat} (h : s ≤ l.length - p) : (midL l p s).length = l.length - s - p := by
  simp only [midL, List.length_take, List.length_drop]; omega
theorem midL_mem {l : List V} {p s : Nat} {x : V} (h : x ∈ midL l p s) : x ∈ l := List.mem_of_mem_drop (List.mem_of_mem_take h)
def mids (E : V → V → Bool) (a b : List V) : List (Nat × Nat) := sel E (midL a (nPre E a b) (nSuf E a b)) (midL b (nPre E a b) (nSuf E a b)) (midL a (nPre E a b) (nSuf E a b)).length 0 0
def qrow (q : Nat × Nat) : List Value := [.int .i64 (q.1 : Int), .int .i64 (q.2 : Int)]
def diag (n : Nat) : List (Nat × Nat) := (List.range n).map fun i => (i, i)
def ends (la lb S : Nat) (n : Nat) : List (Nat × Nat) := (List.range n).map fun j => (la - (S - j), lb - (S - j))
def common (E : V → V → Bool) (a b : List V) : List (Nat × Nat) :=
  diag (nPre E a b) ++ ((mids E a b).map fun q => (nPre E a b + q.1, nPre E a b + q.2)) ++ ends a.length b.length (nSuf E a b) (nSuf E a b)
theorem qrow_one (l : List (Nat × Nat)) : (l.flatMap qrow).all (·.oneCell') = true := by
  rw [List.all_flatMap, List.all_eq_true]
  intro q _; rfl
theorem prow_q (p : Nat) (l : List (Nat × Nat)) : l.flatMap (prow p) = (l.map fun q => (p + q.1, p + q.2)).flatMap qrow := by
  rw [List.flatMap_map]; rfl
theorem diag_succ (n : Nat) : diag (n + 1) = diag n ++ [(n, n)] := by simp [diag, List.range_succ]
theorem ends_succ (la lb S n : Nat) : ends la lb S (n + 1) = ends la lb S n ++ [(la - (S - n), lb - (S - n))] := by simp [ends, List.range_succ]
theorem diag_len (n : Nat) : (diag n).length = n := by simp [diag]
theorem ends_len (la lb S n : Nat) : (ends la lb S n).length = n := by simp [ends]
theorem qflat_snoc (l : List (Nat × Nat)) (q : Nat × Nat) : (l ++ [q]).flatMap qrow = l.flatMap qrow ++ qrow q := by simp
section
variable {P : Program} {o : Oper} {w : World} {ρ : Operand → Value}
theorem v_slLH {t : TypeId} {x y z : Operand} {s : Nat} {a : Option Addr} {len cap : Nat} {k k' : IntKind} {h l : Int} (ht : P.underlying t = some (.slice (P.elem t))) (hs : (P.info? (P.elem t)).map (·.size) = some s) (ho : o.op = .slice t x (some y) (some z) none) (hx : ρ x = .slice a len cap) (hy : ρ y = .int k l) (hz : ρ z = .int k' h) (h0 : 0 ≤ l) (h1 : l ≤ h) (h2 : h ≤ cap) :
    (execOp ρ o).run P w = .ok (.value (sliced a l.toNat h.toNat cap s)) w := by
  unfold execOp; rw [ho]
  have := run_slice_lh (w := w) t a len cap ht k k' l h h0 h1 h2
  simp [hx, hy, hz, run_sliceAt_slice (w := w) t _ _ _ _ ht, this, run_size (w := w) hs]
end
theorem RepLs.drop {A : Nat → Prop} {w : World} {b : Nat} : ∀ (l : List V) (o k : Nat), RepLs A w b o l → RepLs A w b (o + k * 13) (l.drop k)
  | l, o, 0, h => by simpa using h
  | [], o, k + 1, h => by simp [RepLs]
  | v :: vs, o, k + 1, h => by
    simp only [RepLs] at h
    have := RepLs.drop vs (o + 13) k h.2
    rw [show o + 13 + k * 13 = o + (k + 1) * 13 by omega] at this
    simpa using this
theorem RepLs.take {A : Nat → Prop} {w : World} {b : Nat} : ∀ (l : List V) (o k : Nat), RepLs A w b o l → RepLs A w b o (l.take k)
  | l, o, 0, h => by simp [RepLs]
  | [], o, k + 1, h => by simp [RepLs]
  | v :: vs, o, k + 1, h => by
    simp only [RepLs] at h
    simp only [List.take_succ_cons, RepLs]
    exact ⟨h.1, RepLs.take vs (o + 13) k h.2⟩
theorem Lst.cap {w : World} {a : Option Addr} {c n : Nat} {l : List V} (h : Lst w (.slice a n c) l) : n = l.length ∧ l.length ≤ c := by
  obtain ⟨b, o, hs, hr⟩ := h
  rcases hs with ⟨h0, e⟩ | ⟨ad, cap, e, hc, _⟩
  · cases e; omega
  · cases e; exact ⟨rfl, hc⟩
theorem Lst.sub {w : World} {a : Option Addr} {c n lo hi : Nat} {l : List V} (h : Lst w (.slice a n c) l) (h1 : lo ≤ hi) (h2 : hi ≤ l.length) : Lst w (sliced a lo hi c 13) ((l.drop lo).take (hi - lo)) := by
  obtain ⟨b, o, hs, hr⟩ := h
  refine ⟨b, o + lo * 13, ?_, RepLs.take _ _ _ (RepLs.drop _ _ _ hr)⟩
  have hl : ((l.drop lo).take (hi - lo)).length = hi - lo := by simp only [List.length_take, List.length_drop]; omega
  rw [hl]
  unfold sliced
  rcases hs with ⟨h0, e⟩ | ⟨ad, cap, e, hc, ha⟩
  · cases e
    left
    obtain rfl : hi = 0 := by omega
    obtain rfl : lo = 0 := by omega
    exact ⟨rfl, rfl⟩
  · cases e
    right
    split
    · rename_i e
      exact ⟨ad, _, rfl, by omega, fun h => by omega⟩
    · refine ⟨ad.add (lo * 13), c - lo, rfl, by omega, fun h => ?_⟩
      obtain ⟨rfl, hA⟩ := ha (by omega)
      exact ⟨by simp [Addr.add], hA⟩
theorem Src.row {w : World} {B e k n : Nat} {v : Value} {xs : List Value} (row : w.ownsRow B e k v n xs) (hl : xs.length = n * k) : Src w v n xs := by
  rcases row.2 with ⟨rfl, rfl⟩ | ⟨g, cap, cur, rfl, _⟩
  · exact .inl ⟨rfl, rfl, List.eq_nil_of_length_eq_zero (by omega)⟩
  · obtain ⟨a, c, e, h⟩ := own_row row
    cases e
    refine .inr ⟨_, _, rfl, fun j u hu => ?_⟩
    have h0 : 0 < n := by
      have := (List.getElem?_eq_some_iff.1 hu).1
      rcases Nat.eq_zero_or_pos n with h | h
      · subst h; omega
      · exact h
    obtain ⟨g', e', hr⟩ := h h0
    cases e'
    rw [add_addr]; exact hr j u hu
theorem Cxr.adopt {w0 w w' : World} {L : List (Nat × Obj)} {R : List Row} {e k n : Nat} {v : Value} {xs : List Value} (cx : Cxr w0 w L R) (hb : Below w.heap.size w w') (row : w'.ownsRow w.heap.size e k v n xs) : Cxr w0 w' L (⟨e, k, v, n, xs⟩ :: R) := by
  refine (cx.call hb).addRow _ ⟨row.1, row.2.imp id fun ⟨g, cap, cur, h1, h2, h3⟩ => ⟨g, cap, cur, h1, Nat.le_trans cx.ext.size h2, h3⟩⟩ ?_ ?_
  · intro q hq hm
    obtain ⟨p, hp, rfl⟩ := List.mem_map.1 hm
    have := cx.lt p hp
    have := (row.lt _ hq).1; omega
  · intro s hs q hq hq'
    have := ((cx.rows s hs).lt _ hq').2
    have := (row.lt _ hq).1; omega
section
variable {P : Program} {o : Oper} {w : World} {ρ : Operand → Value}
theorem v_slLHn {t : TypeId} {x y z : Operand} {s : Nat} {a : Option Addr} {len cap : Nat} {k k' : IntKind} {h l : Nat} (ht : P.underlying t = some (.slice (P.elem t))) (hs : (P.info? (P.elem t)).map (·.size) = some s) (ho : o.op = .slice t x (some y) (some z) none) (hx : ρ x = .slice a len cap) (hy : ρ y = .int k (l : Int)) (hz : ρ z = .int k' (h : Int)) (h1 : l ≤ h) (h2 : h ≤ cap) :
    (execOp ρ o).run P w = .ok (.value (sliced a l h cap s)) w := by
  have := v_slLH (w := w) ht hs ho hx hy hz (by omega) (by omega) (by omega)
  simpa using this
theorem v_iaA {x ix : Operand} {t e : TypeId} {s b k len : Nat} {m : Int} {kd : IntKind} (hu : P.underlying t = some (.array len e)) (hs : (P.info? e).map (·.size) = some s) (ho : o.op = .indexAddr t x ix)
    (hx : ρ x = .pointer (some ⟨b, k, none⟩)) (hi : ρ ix = .int kd m) (h0 : 0 ≤ m) (h1 : m < len) :
    (execOp ρ o).run P w = .ok (.value (.pointer (some ⟨b, k + m.toNat * s, none⟩))) w := by
  unfold execOp
  rw [ho]
  simp [hx, hi, Instr.indexAt, run_underlying hu, asIntOf, h0, h1, run_size (w := w) hs, add_addr, Instr.sureAddr]
end
end Go.Dk
end
section
set_option linter.unusedVariables false
set_option linter.unusedSimpArgs false
namespace Go.Dk
open Go Go.RowKit
def gapC (B : List Stp → V → V → List Ch) (p : List Stp) (a b : List V) (i j m n : Nat) : List Ch :=
  (List.range (min m n)).flatMap (fun t => B (p ++ [idxS (j + t)]) (a.getD (i + t) nulV) (b.getD (j + t) nulV)) ++
  (List.range (m - n)).map (fun t => ⟨3, p ++ [idxS (j + n)], 0, a.getD (i + n + t) nulV, nulV⟩) ++
  (List.range (n - m)).map (fun t => ⟨2, p ++ [idxS (j + m + t)], 0, nulV, b.getD (j + m + t) nulV⟩)
def lstC (B : List Stp → V → V → List Ch) (p : List Stp) (a b : List V) : List (Nat × Nat) → Nat → Nat → List Ch
  | [], _, _ => []
  | (x, y) :: ps, i, j => gapC B p a b i j (x - i) (y - j) ++ lstC B p a b ps (x + 1) (y + 1)
def kepC (B : List Stp → V → V → List Ch) (p : List Stp) (fb : Fs) : Fs → List Ch
  | [] => []
  | kv :: l => (match hasF kv.1 fb with | some u => B (p ++ [keyS kv.1]) kv.2 u | none => []) ++ kepC B p fb l
def remC (p : List Stp) (fb : Fs) : Fs → Nat → List Ch
  | [], _ => []
  | kv :: l, n => if (hasF kv.1 fb).isSome then remC p fb l (n + 1) else ⟨3, p ++ [keyS kv.1], n, kv.2, nulV⟩ :: remC p fb l n
def nkep (fb : Fs) : Fs → Nat
  | [] => 0
  | kv :: l => (if (hasF kv.1 fb).isSome then 1 else 0) + nkep fb l
def addC (p : List Stp) (fa : Fs) : Fs → Nat → List Ch
  | [], _ => []
  | kv :: l, n => if (hasF kv.1 fa).isSome then addC p fa l n else ⟨2, p ++ [keyS kv.1], n, nulV, kv.2⟩ :: addC p fa l (n + 1)
def btw (E : V → V → Bool) : Nat → List Stp → V → V → List Ch
  | 0, _, _, _ => []
  | d + 1, p, a, b =>
    if E a b then []
    else if a.sc.kind = 7 ∧ b.sc.kind = 7 then kepC (btw E d) p b.fields a.fields ++ remC p b.fields a.fields 0 ++ addC p a.fields b.fields (nkep b.fields a.fields)
    else if a.sc.kind = 6 ∧ b.sc.kind = 6 then lstC (btw E d) p a.list b.list (common E a.list b.list ++ [(a.list.length, b.list.length)]) 0 0
    else [⟨1, p, 0, a, b⟩]
def chA (A : Nat → Prop) (w : World) (c : Ch) (l : List Value) : Prop := ∃ ps o n, l = .int .i64 c.op :: ps :: .int .i64 c.pos :: (o ++ n) ∧ PthA A w ps c.path ∧ RepV A w c.old o ∧ RepV A w c.new n
theorem chA.mono {A A' : Nat → Prop} {w w' : World} (hA : ∀ b, A b → A' b) (hk : Keeps A w w') {c : Ch} {r : List Value} (h : chA A w c r) : chA A' w' c r := by
  obtain ⟨ps, o, n, e, h1, h2, h3⟩ := h
  exact ⟨ps, o, n, e, h1.mono hA hk, RepV.mono hA hk _ _ h2, RepV.mono hA hk _ _ h3⟩
theorem chA.len {A : Nat → Prop} {w : World} (c : Ch) (r : List Value) (h : chA A w c r) : r.length = 29 := by
  obtain ⟨ps, o, n, rfl, h1, h2, h3⟩ := h
  simp [h2.len, h3.len]
theorem chA.one {A : Nat → Prop} {w : World} (c : Ch) (r : List Value) (h : chA A w c r) : r.all (·.oneCell') = true := by
  obtain ⟨ps, o, n, rfl, h1, h2, h3⟩ := h
  simp only [List.all_cons, List.all_append, h1.one, h2.one, h3.one]; rfl
theorem Fz.chs {w w' : World} {L L' : List (Nat × Obj)} {R R' : List Row} (hz : Fz w L R w' L' R') {l : List Ch} {rs : List (List Value)} (h : Rws (chA (F w L R) w) l rs) : Rws (chA (F w' L' R') w') l rs := h.imp fun _ _ h => h.mono hz.up hz.kp
theorem chA.chg {A : Nat → Prop} {w : World} (hA : ∀ b, A b → b < w.heap.size) {c : Ch} {r : List Value} (h : chA A w c r) : Chg w c r := by
  obtain ⟨ps, o, n, e, h1, h2, h3⟩ := h.mono hA (w' := w) (fun _ _ => rfl)
  exact ⟨ps, o, n, e, h1, h2, h3⟩
end Go.Dk
end
section
set_option linter.unusedVariables false
set_option linter.unusedSimpArgs false
namespace Go.Dk
open Go Go.RowKit
theorem kep_cnt {B : List Stp → V → V → List Ch} {d : Nat} (p : List Stp) (fb : Fs) : ∀ (fa : Fs) (m : Nat), (∀ q, ∀ kv ∈ fa, ∀ y, (B q kv.2 y).length ≤ tsz d kv.2 + tsz d y) →
    (kepC B p fb fa).length + (remC p fb fa m).length ≤ (fa.map fun kv => tsz d kv.2).sum + ((keysOf fa).map fun k => tO d (hasF k fb)).sum
  | [], m, hB => by simp [kepC, remC]
  | kv :: fa, m, hB => by
    have h1 := kep_cnt p fb fa m (fun q kv h => hB q kv (List.mem_cons_of_mem _ h))
    have h2 := kep_cnt p fb fa (m + 1) (fun q kv h => hB q kv (List.mem_cons_of_mem _ h))
    have h3 := tsz_pos d kv.2
    simp only [kepC, remC, List.map_cons, List.sum_cons, keysOf, List.length_append] at h1 h2 ⊢
    cases hu : hasF kv.1 fb with
    | none =>
      simp only [Option.isSome_none, Bool.false_eq_true, if_false, List.length_nil, List.length_cons]
      have z0 : tO d none = 0 := rfl
      omega
    | some u =>
      have h4 := hB (p ++ [keyS kv.1]) kv (List.mem_cons_self ..) u
      simp only [Option.isSome_some, if_true]
      have z1 : tO d (some u) = tsz d u := rfl
      omega
theorem add_cnt (d : Nat) (p : List Stp) (fa : Fs) (hn : (keysOf fa).Nodup) : ∀ (fb : Fs) (n : Nat),
    ((keysOf fa).map fun k => tO d (hasF k fb)).sum + (addC p fa fb n).length ≤ (fb.map fun kv => tsz d kv.2).sum
  | [], n => by
    have : ((keysOf fa).map fun k => tO d (hasF k [])) = (keysOf fa).map fun _ => 0 := by simp [hasF, tO]
    rw [this, sum_zero]; simp [addC]
  | kv :: fb, n => by
    have h1 := add_cnt d p fa hn fb n
    have h2 := add_cnt d p fa hn fb (n + 1)
    have h3 := tsz_pos d kv.2
    simp only [addC, List.map_cons, List.sum_cons]
    by_cases hk : (hasF kv.1 fa).isSome = true
    · rw [if_pos hk]
      have hs : ((keysOf fa).map fun k => tO d (hasF k (kv :: fb))).sum ≤ ((keysOf fa).map fun k => (if kv.1 = k then tsz d kv.2 else 0) + tO d (hasF k fb)).sum := sum_le (fun k => by
        unfold hasF
        rw [List.find?_cons]
        by_cases h : kv.1 = k
        · simp [h, tO]
        · simp [h]) _
      rw [sum_add] at hs
      have h4 := sum_one (a := kv.1) (c := tsz d kv.2) _ hn
      omega
    · rw [if_neg hk]
      have hs : ((keysOf fa).map fun k => tO d (hasF k (kv :: fb))) = (keysOf fa).map fun k => tO d (hasF k fb) := List.map_congr_left fun k hm => by
        unfold hasF
        rw [List.find?_cons]
        by_cases h : kv.1 = k
        · exact absurd (hasF_isSome.2 (h ▸ hm)) hk
        · simp [h]
      rw [hs, List.length_cons]
      omega
theorem maps_cnt {B : List Stp → V → V → List Ch} {d : Nat} (p : List Stp) (fa fb : Fs) (hB : ∀ q, ∀ kv ∈ fa, ∀ y, (B q kv.2 y).length ≤ tsz d kv.2 + tsz d y) (hn : (keysOf fa).Nodup) (m n : Nat) :
    (kepC B p fb fa ++ remC p fb fa m ++ addC p fa fb n).length ≤ (fa.map fun kv => tsz d kv.2).sum + (fb.map fun kv => tsz d kv.2).sum := by
  have h1 := kep_cnt p fb fa m hB
  have h2 := add_cnt d p fa hn fb n
  rw [List.length_append, List.length_append]
  omega
end Go.Dk
end
section
set_option linter.unusedVariables false
set_option linter.unusedSimpArgs false
namespace Go.Dk
open Go Go.RowKit
def segG (d : Nat) (l : List V) (i m : Nat) : Nat := ((List.range m).map fun t => tsz d (l.getD (i + t) nulV)).sum
def segS (d : Nat) (l : List V) (i : Nat) : Nat := ((l.drop i).map (tsz d)).sum
theorem segG_succ (d : Nat) (l : List V) (i m : Nat) : segG d l i (m + 1) = segG d l i m + tsz d (l.getD (i + m) nulV) := by
  unfold segG; rw [List.range_succ, List.map_append, List.sum_append]; simp
theorem segG_add (d : Nat) (l : List V) (i k : Nat) : ∀ r, segG d l i k + r ≤ segG d l i (k + r)
  | 0 => Nat.le_refl _
  | r + 1 => by
    have h1 := segG_add d l i k r
    have h2 := tsz_pos d (l.getD (i + (k + r)) nulV)
    rw [show k + (r + 1) = k + r + 1 by omega, segG_succ]
    omega
theorem segS_at (d : Nat) (l : List V) (i : Nat) (h : i < l.length) : segS d l i = tsz d (l.getD i nulV) + segS d l (i + 1) := by
  unfold segS
  rw [List.drop_eq_getElem_cons h, List.map_cons, List.sum_cons, List.getD_eq_getElem?_getD, List.getElem?_eq_getElem h]; rfl
theorem segS_le (d : Nat) (l : List V) (i : Nat) : segS d l (i + 1) ≤ segS d l i := by
  rcases Nat.lt_or_ge i l.length with h | h
  · rw [segS_at d l i h]; omega
  · unfold segS; rw [List.drop_eq_nil_of_le (by omega)]; simp
theorem segG_S (d : Nat) (l : List V) (i : Nat) : ∀ m, i + m ≤ l.length → segG d l i m + segS d l (i + m) = segS d l i
  | 0, _ => by simp [segG]
  | m + 1, h => by
    have h1 := segG_S d l i m (by omega)
    have h2 := segS_at d l (i + m) (by omega)
    rw [segG_succ, show i + (m + 1) = i + m + 1 by omega]
    omega
theorem gap_cnt {B : List Stp → V → V → List Ch} {d : Nat} (p : List Stp) (a b : List V) (hB : ∀ q i y, (B q (a.getD i nulV) y).length ≤ tsz d (a.getD i nulV) + tsz d y) (i j m n : Nat) : (gapC B p a b i j m n).length ≤ segG d a i m + segG d b j n := by
  have h1 : ((List.range (min m n)).flatMap (fun t => B (p ++ [idxS (j + t)]) (a.getD (i + t) nulV) (b.getD (j + t) nulV))).length ≤ segG d a i (min m n) + segG d b j (min m n) := by
    rw [List.length_flatMap]
    refine Nat.le_trans (sum_le (g := fun t => tsz d (a.getD (i + t) nulV) + tsz d (b.getD (j + t) nulV)) (fun t => hB _ _ _) _) ?_
    rw [sum_add]
    exact Nat.le_refl _
  have h2 := segG_add d a i (min m n) (m - n)
  have h3 := segG_add d b j (min m n) (n - m)
  rw [show min m n + (m - n) = m by omega] at h2
  rw [show min m n + (n - m) = n by omega] at h3
  unfold gapC
  simp only [List.length_append, List.length_map, List.length_range]
  omega
def IncP (la lb : Nat) : List (Nat × Nat) → Nat → Nat → Prop
  | [], _, _ => True
  | (x, y) :: ps, i, j => i ≤ x ∧ j ≤ y ∧ x ≤ la ∧ y ≤ lb ∧ IncP la lb ps (x + 1) (y + 1)
theorem lst_cnt {B : List Stp → V → V → List Ch} {d : Nat} (p : List Stp) (a b : List V) (hB : ∀ q i y, (B q (a.getD i nulV) y).length ≤ tsz d (a.getD i nulV) + tsz d y) : ∀ (ps : List (Nat × Nat)) (i j : Nat), IncP a.length b.length ps i j → (lstC B p a b ps i j).length ≤ segS d a i + segS d b j
  | [], i, j, _ => by simp [lstC]
  | (x, y) :: ps, i, j, h => by
    obtain ⟨h1, h2, h3, h4, h5⟩ := h
    have g1 := gap_cnt p a b hB i j (x - i) (y - j)
    have g2 := segG_S d a i (x - i) (by omega)
    have g3 := segG_S d b j (y - j) (by omega)
    rw [show i + (x - i) = x by omega] at g2
    rw [show j + (y - j) = y by omega] at g3
    have g4 := segS_le d a x
    have g5 := segS_le d b y
    have g6 := lst_cnt p a b hB ps (x + 1) (y + 1) h5
    simp only [lstC, List.length_append]
    omega
theorem btw_cnt (E : V → V → Bool) (hI : ∀ a b : List V, IncP a.length b.length (common E a b ++ [(a.length, b.length)]) 0 0) : ∀ (d : Nat) (p : List Stp) (a b : V), okd d a → (btw E d p a b).length ≤ tsz d a + tsz d b
  | 0, p, a, b, _ => by simp [btw]
  | d + 1, p, a, b, ha => by
    have e1 : tsz (d + 1) a = 1 + ((a.list.map (tsz d)).sum + (a.fields.map fun kv => tsz d kv.2).sum) := rfl
    have e2 : tsz (d + 1) b = 1 + ((b.list.map (tsz d)).sum + (b.fields.map fun kv => tsz d kv.2).sum) := rfl
    unfold btw
    split
    · simp
    · split
      · have h := maps_cnt (B := btw E d) (d := d) p a.fields b.fields (fun q kv hk y => btw_cnt E hI d q kv.2 y (ha.2.2.2 kv hk)) ha.2.1 0 (nkep b.fields a.fields)
        omega
      · split
        · have h := lst_cnt (B := btw E d) (d := d) p a.list b.list (fun q i y => by
            cases d with
            | zero => simp [btw]
            | succ d =>
              refine btw_cnt E hI (d + 1) q _ y ?_
              rw [List.getD_eq_getElem?_getD]
              cases hx : a.list[i]? with
              | none => exact (gd_nul d 0).ok
              | some x => exact ha.2.2.1 x (List.mem_of_getElem? hx)) _ 0 0 (hI a.list b.list)
          have h0 : segS d a.list 0 = (a.list.map (tsz d)).sum := rfl
          have h1 : segS d b.list 0 = (b.list.map (tsz d)).sum := rfl
          omega
        · simp only [List.length_cons, List.length_nil]; omega
end Go.Dk
end
section
namespace Go.Proofs.Ytmkihcdcgkdilaa
open Go Go.Dk Go.RowKit
set_option linter.unusedSimpArgs false
set_option linter.unusedVariables false
attribute [local irreducible] Go.wpList Go.Code.wp Go.bodyPost Go.wpStill Go.wpQuiet
set_option maxRecDepth 10000 in
theorem el30 : Try.prog.underlying 30 = some (.slice (Try.prog.elem 30)) := Try.underlying30
set_option maxRecDepth 10000 in
theorem es30 : (Try.prog.info? (Try.prog.elem 30)).map (·.size) = some 13 := sz33
set_option maxRecDepth 10000 in
set_option maxHeartbeats 6400000 in
theorem c25 (E : V → V → Bool) (hE : ∀ x y, E x y = true ↔ canon x = canon y) (a b : List V) (s1 s2 : Value) (w0 : World) (hla : Lst w0 s1 a) (hlb : Lst w0 s2 b) (hoa : ∀ x ∈ a, okd 48 x ∧ Fine x) (hob : ∀ x ∈ b, okd 48 x ∧ Fine x) (hna : a.length ≤ 6000) (hnb : b.length ≤ 6000) (hnm : a.length * b.length ≤ 40000) : Fc Try.prog 25 [s1, s2] w0 (fun x w' => w'.ownsRow w0.heap.size 43 2 x (common E a b).length ((common E a b).flatMap qrow)) := by
  obtain ⟨a1, c1, b1, o1, rfl, hfa1, hget1⟩ := hla.open
  obtain ⟨a2, c2, b2, o2, rfl, hfa2, hget2⟩ := hlb.open
  obtain ⟨P, hPd⟩ : ∃ P, P = nPre E a b := ⟨_, rfl⟩
  obtain ⟨S, hSd⟩ : ∃ S, S = nSuf E a b := ⟨_, rfl⟩
  have hPa := nPre_a E a b
  have hPb := nPre_b E a b
  have hSa := nSuf_a E a b
  have hSb := nSuf_b E a b
  have hMd : sel E (midL a P S) (midL b P S) (midL a P S).length 0 0 = mids E a b := by rw [hPd, hSd]; rfl
  have hP0 : upw (qPre E a b) (a.length - 0) 0 = P := hPd.symm
  have hS0 : upw (qSuf E a b P) (a.length - P - 0) 0 = S := by rw [hSd, hPd]; rfl
  have hCd : common E a b = diag P ++ ((mids E a b).map fun q => (P + q.1, P + q.2)) ++ ends a.length b.length S S := by rw [hPd, hSd]; rfl
  rw [← hPd] at hPa hPb hSa hSb
  rw [← hSd] at hSa hSb
  have hlA : (midL a P S).length + S + P = a.length := by rw [midL_len hSa]; omega
  have hlB : (midL b P S).length + S + P = b.length := by rw [midL_len hSb]; omega
  replace hSa : P + S ≤ a.length := by omega
  replace hSb : P + S ≤ b.length := by omega
  have hMl := sel_len E (midL a P S) (midL b P S) (midL a P S).length 0 0
  rw [hMd] at hMl
  have hM2 : (mids E a b).length ≤ 6000 := Nat.le_trans hMl (by omega)
  have hMl4 : P + (mids E a b).length ≤ 12000 := Nat.add_le_add (show P ≤ 6000 by omega) hM2
  clear hMl
  refine ret_enter Try.func25 rfl Try.ntmps25 rfl ?_
  have cx := Ctx.start w0
  refine wp_seq ?_
  refine wp_region_lit ?_
  refine s_val rfl rfl (v_assign rfl rfl) ?_
  refine wpList_nil ?_
  refine wp_seq ?_
  refine wp_region_lit ?_
  refine s_val rfl rfl (v_assign rfl rfl) ?_
  refine wpList_nil ?_
  refine wp_seq ?_
  refine wp_block ?_
  refine w_loop (fun k f w1 => ∃ p, k + p = a.length ∧ f 0 = .slice a1 a.length c1 ∧ f 1 = .slice a2 b.length c2 ∧ f 5 = .int .i64 (p : Nat) ∧ p ≤ b.length ∧ upw (qPre E a b) (a.length - p) p = P ∧ Cxr w0 w1 [] []) (a.length) ?_ ?_
  · skip
    exact ⟨0, by omega, rfl, rfl, rfl, by omega, hP0, cx⟩
  intro gk2 f w hJ
  obtain ⟨p, hki, hs0, hs1, hs5, hpb, hup, cx⟩ := hJ
  obtain ⟨r1, hr1⟩ := get_opt hget1 p
  obtain ⟨r2, hr2⟩ := get_opt hget2 p
  refine wp_seq ?_
  refine wp_seq ?_
  refine w_quiet cx mixed (by kernel_rfl) ?_
  refine q_val rfl rfl (fun w cx hwQ => v_move rfl hs5) ?_
  refine q_val rfl rfl (fun w cx hwQ => v_move rfl hs0) ?_
  refine q_val rfl rfl (fun w cx hwQ => v_lenSlice rfl rfl Try.underlying30) ?_
  refine q_val rfl rfl (fun w cx hwQ => v_cmp rfl rfl rfl rfl) ?_
  refine q_val rfl rfl (fun w cx hwQ => v_move rfl rfl) ?_
  refine q_gval rfl rfl rfl wT (fun hc w cx hwQ => v_move rfl hs5) ?_
  refine q_gval rfl rfl rfl wT (fun hc w cx hwQ => v_move rfl hs1) ?_
  refine q_gval rfl rfl rfl wT (fun hc w cx hwQ => v_lenSlice rfl (by first | exact gve hc rfl | exact gve (and_l hc) rfl | exact gve (and_l (and_l hc)) rfl | rfl) Try.underlying30) ?_
  refine q_gval rfl rfl rfl wT (fun hc w cx hwQ => v_cmp rfl (by first | exact gve hc rfl | exact gve (and_l hc) rfl | exact gve (and_l (and_l hc)) rfl | rfl) (by first | exact gve hc rfl | exact gve (and_l hc) rfl | exact gve (and_l (and_l hc)) rfl | rfl) rfl) ?_
  refine q_val rfl rfl (fun w cx hwQ => v_and rfl rfl rfl rfl) ?_
  refine q_val rfl rfl (fun w cx hwQ => v_move rfl rfl) ?_
  refine q_gval rfl rfl rfl wT (fun hc w cx hwQ => v_move rfl hs0) ?_
  refine q_gval rfl rfl rfl wT (fun hc w cx hwQ => v_move rfl hs5) ?_
  refine q_gval rfl rfl rfl wT (fun hc w cx hwQ => (by obtain ⟨h1, h2⟩ := (by simpa only [Bool.and_eq_true, decide_eq_true_eq] using hc : (p : Int) < (a.length : Int) ∧ (p : Int) < (b.length : Int)); exact v_ia Try.underlying30 sz33 rfl (Eq.trans (gve hc rfl) (by rw [hfa1 (by omega)])) (gve hc rfl) (by omega) (by omega))) ?_
  refine q_gval rfl rfl rfl wT (fun hc w cx hwQ => (by obtain ⟨h1, h2⟩ := (by simpa only [Bool.and_eq_true, decide_eq_true_eq] using hc : (p : Int) < (a.length : Int) ∧ (p : Int) < (b.length : Int)); exact v_load rfl (gve hc rfl) Try.underlying33 rfl sz33 ((hr1 (by omega)).1.up cx.ext) (hr1 (by omega)).2.len)) ?_
  refine q_gval rfl rfl rfl wT (fun hc w cx hwQ => v_move rfl hs1) ?_
  refine q_gval rfl rfl rfl wT (fun hc w cx hwQ => v_move rfl hs5) ?_
  refine q_gval rfl rfl rfl wT (fun hc w cx hwQ => (by obtain ⟨h1, h2⟩ := (by simpa only [Bool.and_eq_true, decide_eq_true_eq] using hc : (p : Int) < (a.length : Int) ∧ (p : Int) < (b.length : Int)); exact v_ia Try.underlying30 sz33 rfl (Eq.trans (gve hc rfl) (by rw [hfa2 (by omega)])) (gve hc rfl) (by omega) (by omega))) ?_
  refine q_gval rfl rfl rfl wT (fun hc w cx hwQ => (by obtain ⟨h1, h2⟩ := (by simpa only [Bool.and_eq_true, decide_eq_true_eq] using hc : (p : Int) < (a.length : Int) ∧ (p : Int) < (b.length : Int)); exact v_load rfl (gve hc rfl) Try.underlying33 rfl sz33 ((hr2 (by omega)).1.up cx.ext) (hr2 (by omega)).2.len)) ?_
  refine q_gcall (v := .bool (E (a.getD p nulV) (b.getD p nulV))) rfl rfl rfl wT (fun hc => runs_fn Try.func53 rfl rfl rfl (cons_eq (gve hc rfl) (cons_eq (gve hc rfl) rfl))) (fun hc w cx hwQ => by obtain ⟨h1, h2⟩ := (by simpa only [Bool.and_eq_true, decide_eq_true_eq] using hc : (p : Int) < (a.length : Int) ∧ (p : Int) < (b.length : Int)); exact (c53 48 _ _ _ _ _ (by omega) (fine_getD hoa (k := p) (by omega)).1 (fine_getD hob (k := p) (by omega)).1 (fine_getD hoa (k := p) (by omega)).2 (fine_getD hob (k := p) (by omega)).2 ((hr1 (by omega)).2.up cx.ext) ((hr2 (by omega)).2.up cx.ext)).det fun b hb => Bool.eq_iff_iff.2 (hb.trans (hE _ _).symm)) ?_
  refine q_val rfl rfl (fun w cx hwQ => v_and rfl rfl rfl rfl) ?_
  refine q_nil ?_; rintro w ⟨cx, hwQ2⟩
  refine c_split rfl (fun hc30 => ?_) (fun hc30 => ?_)
  · skip
    simp only [Bool.and_eq_true, decide_eq_true_eq] at hc30
    obtain ⟨⟨h1, h2⟩, h3⟩ := hc30
    have hq : qPre E a b p = true := by unfold qPre; rw [decide_eq_true (by omega), h3]; rfl
    rw [show a.length - p = (a.length - (p + 1)) + 1 by omega, upw_yes hq] at hup
    refine wp_skip ?_
    refine wp_block ?_
    refine wp_region_lit ?_
    refine s_val rfl rfl (v_move rfl hs5) ?_
    refine s_val rfl rfl (v_add rfl rfl rfl (by omega) (by omega)) ?_
    refine s_val rfl rfl (v_assign rfl rfl) ?_
    refine wpList_nil ?_
    exact ⟨gk2 - 1, _, by omega, rfl, p + 1, by omega, hs0, hs1, rfl, by omega, hup, cx⟩
  simp only [Bool.and_eq_false_iff, decide_eq_false_iff_not] at hc30
  obtain rfl : P = p := by
    rw [← hup]
    refine upw_no ?_
    rcases hc30 with (h | h) | h
    · left; omega
    · right; unfold qPre; rw [decide_eq_false (by omega)]; rfl
    · right; unfold qPre; rw [h, Bool.and_false]
  clear hc30 hup
  refine wp_exit ?_
  refine wp_seq ?_
  refine wp_region_lit ?_
  refine s_val rfl rfl (v_assign rfl rfl) ?_
  refine wpList_nil ?_
  refine wp_seq ?_
  refine wp_block ?_
  refine w_loop (fun k f w1 => ∃ s, k + s = a.length - P ∧ f 0 = .slice a1 a.length c1 ∧ f 1 = .slice a2 b.length c2 ∧ f 5 = .int .i64 (P : Nat) ∧ f 6 = .int .i64 (s : Nat) ∧ s ≤ b.length - P ∧ upw (qSuf E a b P) (a.length - P - s) s = S ∧ Cxr w0 w1 [] []) (a.length - P) ?_ ?_
  · skip
    exact ⟨0, by omega, hs0, hs1, hs5, rfl, by omega, hS0, cx⟩
  intro gk5 f w hJ
  obtain ⟨s, hks, hs0, hs1, hs5, hs6, hsb, hup, cx⟩ := hJ
  obtain ⟨r1, hr1⟩ := get_opt hget1 (a.length - 1 - s)
  obtain ⟨r2, hr2⟩ := get_opt hget2 (b.length - 1 - s)
  refine wp_seq ?_
  refine wp_seq ?_
  refine w_quiet cx mixed (by kernel_rfl) ?_
  refine q_val rfl rfl (fun w cx hwQ => v_move rfl hs6) ?_
  refine q_val rfl rfl (fun w cx hwQ => v_move rfl hs0) ?_
  refine q_val rfl rfl (fun w cx hwQ => v_lenSlice rfl rfl Try.underlying30) ?_
  refine q_val rfl rfl (fun w cx hwQ => v_move rfl hs5) ?_
  refine q_val rfl rfl (fun w cx hwQ => v_sub rfl rfl rfl (by omega) (by omega)) ?_
  refine q_val rfl rfl (fun w cx hwQ => v_cmp rfl rfl rfl rfl) ?_
  refine q_val rfl rfl (fun w cx hwQ => v_move rfl rfl) ?_
  refine q_gval rfl rfl rfl wT (fun hc w cx hwQ => v_move rfl hs6) ?_
  refine q_gval rfl rfl rfl wT (fun hc w cx hwQ => v_move rfl hs1) ?_
  refine q_gval rfl rfl rfl wT (fun hc w cx hwQ => v_lenSlice rfl (by first | exact gve hc rfl | exact gve (and_l hc) rfl | exact gve (and_l (and_l hc)) rfl | rfl) Try.underlying30) ?_
  refine q_gval rfl rfl rfl wT (fun hc w cx hwQ => v_move rfl hs5) ?_
  refine q_gval rfl rfl rfl wT (fun hc w cx hwQ => v_sub rfl (by first | exact gve hc rfl | exact gve (and_l hc) rfl | exact gve (and_l (and_l hc)) rfl | rfl) (by first | exact gve hc rfl | exact gve (and_l hc) rfl | exact gve (and_l (and_l hc)) rfl | rfl) (by first | omega | (simp only [bsl] at hc; omega)) (by first | omega | (simp only [bsl] at hc; omega))) ?_
  refine q_gval rfl rfl rfl wT (fun hc w cx hwQ => v_cmp rfl (by first | exact gve hc rfl | exact gve (and_l hc) rfl | exact gve (and_l (and_l hc)) rfl | rfl) (by first | exact gve hc rfl | exact gve (and_l hc) rfl | exact gve (and_l (and_l hc)) rfl | rfl) rfl) ?_
  refine q_val rfl rfl (fun w cx hwQ => v_and rfl rfl rfl rfl) ?_
  refine q_val rfl rfl (fun w cx hwQ => v_move rfl rfl) ?_
  refine q_gval rfl rfl rfl wT (fun hc w cx hwQ => v_move rfl hs0) ?_
  refine q_gval rfl rfl rfl wT (fun hc w cx hwQ => v_move rfl hs0) ?_
  refine q_gval rfl rfl rfl wT (fun hc w cx hwQ => v_lenSlice rfl (by first | exact gve hc rfl | exact gve (and_l hc) rfl | exact gve (and_l (and_l hc)) rfl | rfl) Try.underlying30) ?_
  refine q_gval rfl rfl rfl wT (fun hc w cx hwQ => (by obtain ⟨h1, h2⟩ := (by simpa only [Bool.and_eq_true, decide_eq_true_eq] using hc : (s : Int) < (a.length : Int) - (P : Int) ∧ (s : Int) < (b.length : Int) - (P : Int)); exact v_subQ rfl (gve hc rfl) rfl (r := ((a.length - 1 : Nat) : Int)) (by omega) (by omega) (by omega))) ?_
  refine q_gval rfl rfl rfl wT (fun hc w cx hwQ => v_move rfl hs6) ?_
  refine q_gval rfl rfl rfl wT (fun hc w cx hwQ => (by obtain ⟨h1, h2⟩ := (by simpa only [Bool.and_eq_true, decide_eq_true_eq] using hc : (s : Int) < (a.length : Int) - (P : Int) ∧ (s : Int) < (b.length : Int) - (P : Int)); exact v_subQ rfl (gve hc rfl) (gve hc rfl) (r := ((a.length - 1 - s : Nat) : Int)) (by omega) (by omega) (by omega))) ?_
  refine q_gval rfl rfl rfl wT (fun hc w cx hwQ => (by obtain ⟨h1, h2⟩ := (by simpa only [Bool.and_eq_true, decide_eq_true_eq] using hc : (s : Int) < (a.length : Int) - (P : Int) ∧ (s : Int) < (b.length : Int) - (P : Int)); exact v_ia Try.underlying30 sz33 rfl (Eq.trans (gve hc rfl) (by rw [hfa1 (by omega)])) (gve hc rfl) (by omega) (by omega))) ?_
  refine q_gval rfl rfl rfl wT (fun hc w cx hwQ => (by obtain ⟨h1, h2⟩ := (by simpa only [Bool.and_eq_true, decide_eq_true_eq] using hc : (s : Int) < (a.length : Int) - (P : Int) ∧ (s : Int) < (b.length : Int) - (P : Int)); exact v_load rfl (gve hc rfl) Try.underlying33 rfl sz33 ((hr1 (by omega)).1.up cx.ext) (hr1 (by omega)).2.len)) ?_
  refine q_gval rfl rfl rfl wT (fun hc w cx hwQ => v_move rfl hs1) ?_
  refine q_gval rfl rfl rfl wT (fun hc w cx hwQ => v_move rfl hs1) ?_
  refine q_gval rfl rfl rfl wT (fun hc w cx hwQ => v_lenSlice rfl (by first | exact gve hc rfl | exact gve (and_l hc) rfl | exact gve (and_l (and_l hc)) rfl | rfl) Try.underlying30) ?_
  refine q_gval rfl rfl rfl wT (fun hc w cx hwQ => (by obtain ⟨h1, h2⟩ := (by simpa only [Bool.and_eq_true, decide_eq_true_eq] using hc : (s : Int) < (a.length : Int) - (P : Int) ∧ (s : Int) < (b.length : Int) - (P : Int)); exact v_subQ rfl (gve hc rfl) rfl (r := ((b.length - 1 : Nat) : Int)) (by omega) (by omega) (by omega))) ?_
  refine q_gval rfl rfl rfl wT (fun hc w cx hwQ => v_move rfl hs6) ?_
  refine q_gval rfl rfl rfl wT (fun hc w cx hwQ => (by obtain ⟨h1, h2⟩ := (by simpa only [Bool.and_eq_true, decide_eq_true_eq] using hc : (s : Int) < (a.length : Int) - (P : Int) ∧ (s : Int) < (b.length : Int) - (P : Int)); exact v_subQ rfl (gve hc rfl) (gve hc rfl) (r := ((b.length - 1 - s : Nat) : Int)) (by omega) (by omega) (by omega))) ?_
  refine q_gval rfl rfl rfl wT (fun hc w cx hwQ => (by obtain ⟨h1, h2⟩ := (by simpa only [Bool.and_eq_true, decide_eq_true_eq] using hc : (s : Int) < (a.length : Int) - (P : Int) ∧ (s : Int) < (b.length : Int) - (P : Int)); exact v_ia Try.underlying30 sz33 rfl (Eq.trans (gve hc rfl) (by rw [hfa2 (by omega)])) (gve hc rfl) (by omega) (by omega))) ?_
  refine q_gval rfl rfl rfl wT (fun hc w cx hwQ => (by obtain ⟨h1, h2⟩ := (by simpa only [Bool.and_eq_true, decide_eq_true_eq] using hc : (s : Int) < (a.length : Int) - (P : Int) ∧ (s : Int) < (b.length : Int) - (P : Int)); exact v_load rfl (gve hc rfl) Try.underlying33 rfl sz33 ((hr2 (by omega)).1.up cx.ext) (hr2 (by omega)).2.len)) ?_
  refine q_gcall (v := .bool (E (a.getD (a.length - 1 - s) nulV) (b.getD (b.length - 1 - s) nulV))) rfl rfl rfl wT (fun hc => runs_fn Try.func53 rfl rfl rfl (cons_eq (gve hc rfl) (cons_eq (gve hc rfl) rfl))) (fun hc w cx hwQ => by obtain ⟨h1, h2⟩ := (by simpa only [Bool.and_eq_true, decide_eq_true_eq] using hc : (s : Int) < (a.length : Int) - (P : Int) ∧ (s : Int) < (b.length : Int) - (P : Int)); exact (c53 48 _ _ _ _ _ (by omega) (fine_getD hoa (k := (a.length - 1 - s)) (by omega)).1 (fine_getD hob (k := (b.length - 1 - s)) (by omega)).1 (fine_getD hoa (k := (a.length - 1 - s)) (by omega)).2 (fine_getD hob (k := (b.length - 1 - s)) (by omega)).2 ((hr1 (by omega)).2.up cx.ext) ((hr2 (by omega)).2.up cx.ext)).det fun b hb => Bool.eq_iff_iff.2 (hb.trans (hE _ _).symm)) ?_
  refine q_val rfl rfl (fun w cx hwQ => v_and rfl rfl rfl rfl) ?_
  refine q_nil ?_; rintro w ⟨cx, hwQ5⟩
  refine c_split rfl (fun hc65 => ?_) (fun hc65 => ?_)
  · skip
    simp only [Bool.and_eq_true, decide_eq_true_eq] at hc65
    obtain ⟨⟨h1, h2⟩, h3⟩ := hc65
    have hq : qSuf E a b P s = true := by unfold qSuf; rw [decide_eq_true (by omega), h3]; rfl
    rw [show a.length - P - s = (a.length - P - (s + 1)) + 1 by omega, upw_yes hq] at hup
    refine wp_skip ?_
    refine wp_block ?_
    refine wp_region_lit ?_
    refine s_val rfl rfl (v_move rfl hs6) ?_
    refine s_val rfl rfl (v_add rfl rfl rfl (by omega) (by omega)) ?_
    refine s_val rfl rfl (v_assign rfl rfl) ?_
    refine wpList_nil ?_
    exact ⟨gk5 - 1, _, by omega, rfl, s + 1, by omega, hs0, hs1, hs5, rfl, by omega, hup, cx⟩
  simp only [Bool.and_eq_false_iff, decide_eq_false_iff_not] at hc65
  obtain rfl : S = s := by
    rw [← hup]
    refine upw_no ?_
    rcases hc65 with (h | h) | h
    · left; omega
    · right; unfold qSuf; rw [decide_eq_false (by omega)]; rfl
    · right; unfold qSuf; rw [h, Bool.and_false]
  clear hc65 hup
  refine wp_exit ?_
  refine wp_seq ?_
  refine wp_region_lit ?_
  refine s_val rfl rfl (v_assign rfl rfl) ?_
  refine wpList_nil ?_
  refine wp_seq ?_
  refine wp_seq ?_
  refine wp_region_lit ?_
  replace cx := cx.nilRow 43 2
  refine s_val rfl rfl (v_move rfl hs5) ?_
  refine s_val rfl rfl (v_move rfl rfl) ?_
  refine wpList_nil ?_
  refine wp_block ?_
  refine w_loop (fun k f w1 => ∃ n x, k + n = P ∧ f 0 = .slice a1 a.length c1 ∧ f 1 = .slice a2 b.length c2 ∧ f 5 = .int .i64 (P : Nat) ∧ f 6 = .int .i64 (S : Nat) ∧ f 7 = x ∧ f 68 = .int .i64 (P : Nat) ∧ f 69 = .int .i64 (n : Nat) ∧ Cxr w0 w1 [] [⟨43, 2, x, (diag n).length, (diag n).flatMap qrow⟩]) (P) ?_ ?_
  · skip
    exact ⟨0, _, by omega, hs0, hs1, hs5, hs6, rfl, rfl, rfl, cx⟩
  intro gk9 f w hJ
  obtain ⟨n, x, hkn, hs0, hs1, hs5, hs6, hs7, hs68, hs69, cx⟩ := hJ
  have hdl := diag_len n
  refine wp_seq ?_
  refine wp_region_lit ?_
  refine s_val rfl rfl (v_cmp rfl hs69 hs68 rfl) ?_
  refine wpList_nil ?_
  refine wp_seq ?_
  refine c_split rfl (fun hc70 => ?_) (fun hc70 => ?_)
  · skip
    try simp only [bsl] at hc70
    refine wp_skip ?_
    refine wp_seq ?_
    refine wp_block ?_
    refine wp_seq ?_
    refine wp_region_lit ?_
    refine s_val rfl rfl (v_move rfl hs69) ?_
    refine s_val rfl rfl (v_assign rfl rfl) ?_
    refine wpList_nil ?_
    refine wp_region_lit ?_
    refine s_val rfl rfl (v_move rfl hs7) ?_
    refine s_val rfl rfl (v_move rfl rfl) ?_
    refine s_val rfl rfl (v_move rfl rfl) ?_
    refine s_val rfl rfl (v_build (bd43 _ _) rfl rfl) ?_
    refine s_bsl1 cx Try.underlying41 sz43 z43 rfl rfl rfl rfl rfl rfl rfl rfl ?_; intro b76 w cx hb76 hw76
    refine s_appendG (m := 1) cx ei43 Try.underlying41 rfl rfl rfl rfl rfl (cx.row 0 rfl) rfl rfl (by omega) ?_; intro v77 w cx hgr77 hnw77
    replace cx := cx.drop 1
    refine s_val rfl rfl (v_assign rfl rfl) ?_
    refine wpList_nil ?_
    refine wp_region_lit ?_
    refine s_val rfl rfl (v_add rfl hs69 rfl (by omega) (by omega)) ?_
    refine s_val rfl rfl (v_move rfl rfl) ?_
    refine wpList_nil ?_
    refine ⟨gk9 - 1, _, by omega, rfl, n + 1, v77, by omega, hs0, hs1, hs5, hs6, rfl, hs68, rfl, ?_⟩
    rw [diag_succ, List.length_append, qflat_snoc]
    exact cx
  try simp only [bsl] at hc70
  obtain rfl : P = n := by omega
  refine wp_exit ?_
  refine wp_seq ?_
  refine w_ord cx (Ctx.sub0 cx) mixed [(0, 79), (1, 80), (2, 81), (3, 82), (4, 83), (5, 84), (6, 85), (7, 86), (8, 87), (9, 88), (10, 89), (11, 90), (12, 91), (13, 92), (14, 93), (15, 94)] #[true, true, true, true, true, true, true, true, true, true, true, true, true, true, true, true, false, false, false] (by kernel_rfl) (by kernel_rfl) (by kernel_rfl) (by kernel_rfl) ?_
  refine pu_one rfl (wnt_none rfl) (fun w cx => v_move rfl hs7) ?_
  refine pu_one rfl (wnt_none rfl) (fun w cx => v_move rfl hs0) ?_
  refine pu_one rfl (wnt_none rfl) (fun w cx => v_move rfl hs5) ?_
  refine pu_one rfl (wnt_none rfl) (fun w cx => v_move rfl hs0) ?_
  refine pu_one rfl (wnt_none rfl) (fun w cx => v_lenSlice rfl rfl Try.underlying30) ?_
  refine pu_one rfl (wnt_none rfl) (fun w cx => v_move rfl hs6) ?_
  refine pu_one rfl (wnt_none rfl) (fun w cx => v_subQ rfl rfl rfl (r := ((a.length - S : Nat) : Int)) (by omega) (by omega) (by omega)) ?_
  refine pu_one rfl (wnt_none rfl) (fun w cx => v_slLHn el30 es30 rfl rfl rfl rfl (by omega) (by have := hla.cap.2; omega)) ?_
  refine pu_one rfl (wnt_none rfl) (fun w cx => v_move rfl hs1) ?_
  refine pu_one rfl (wnt_none rfl) (fun w cx => v_move rfl hs5) ?_
  refine pu_one rfl (wnt_none rfl) (fun w cx => v_move rfl hs1) ?_
  refine pu_one rfl (wnt_none rfl) (fun w cx => v_lenSlice rfl rfl Try.underlying30) ?_
  refine pu_one rfl (wnt_none rfl) (fun w cx => v_move rfl hs6) ?_
  refine pu_one rfl (wnt_none rfl) (fun w cx => v_subQ rfl rfl rfl (r := ((b.length - S : Nat) : Int)) (by omega) (by omega) (by omega)) ?_
  refine pu_one rfl (wnt_none rfl) (fun w cx => v_slLHn el30 es30 rfl rfl rfl rfl (by omega) (by have := hlb.cap.2; omega)) ?_
  refine pu_one rfl (wnt_none rfl) (fun w cx => v_move rfl hs5) ?_
  refine pu_nil ?_; intro w cx hwD13
  refine x_one (i := 16) (by kernel_rfl) rfl ?_
  have hLa : Lst w (sliced a1 P (a.length - S) c1 13) (midL a P S) := (hla.up cx.ext).sub (by omega) (by omega)
  have hLb : Lst w (sliced a2 P (b.length - S) c2 13) (midL b P S) := (hlb.up cx.ext).sub (by omega) (by omega)
  have hca := hla.cap.2
  have hcb := hlb.cap.2
  refine s_fn cx (c54 E hE _ _ _ _ P w hLa hLb (fun x hx => hoa x (midL_mem hx)) (fun x hx => hob x (midL_mem hx)) (by omega) (by omega) (Nat.le_trans (Nat.mul_le_mul (show (midL a P S).length ≤ a.length by omega) (show (midL b P S).length ≤ b.length by omega)) hnm) (by omega)) Try.func54 rfl rfl rfl rfl rfl rfl ?_; intro q95 w cx hw95 hp95
  rw [hMd] at hp95
  refine x_next ⟨.inl (Ctx.sub0 cx), ?_⟩
  refine x_one (i := 17) (by kernel_rfl) rfl ?_
  refine s_appendS cx ei43 Try.underlying41 rfl rfl rfl rfl rfl (Src.row hp95 (prow_len _ _)) (prow_len _ _) (by rw [prow_q]; exact qrow_one _) (by rw [diag_len]; exact Nat.le_trans (Nat.mul_le_mul_right _ hMl4) (by decide)) ?_; intro v96 w cx hgr96 hnw96
  refine x_next ⟨.inr (by kernel_rfl), ?_⟩
  refine x_one (i := 18) (by kernel_rfl) rfl ?_
  refine s_val rfl rfl (v_assign rfl rfl) ?_
  refine x_next ⟨.inr (by kernel_rfl), ?_⟩
  refine x_done (by kernel_rfl) ?_
  refine wp_seq ?_
  refine wp_seq ?_
  refine wp_region_lit ?_
  obtain ⟨pr, hpr⟩ : ∃ pr, pr = diag P ++ ((mids E a b).map fun q => (P + q.1, P + q.2)) := ⟨_, rfl⟩
  have hprl : pr.length ≤ 12000 := by rw [hpr, List.length_append, List.length_map, diag_len]; exact hMl4
  rw [show (diag P).length + (mids E a b).length = pr.length by rw [hpr, List.length_append, List.length_map], prow_q, ← List.flatMap_append, ← hpr] at cx
  refine s_val rfl rfl (v_move rfl hs6) ?_
  refine s_val rfl rfl (v_assign rfl rfl) ?_
  refine wpList_nil ?_
  refine wp_block ?_
  refine w_loop (fun k f w1 => ∃ n x, k + n = S ∧ f 0 = .slice a1 a.length c1 ∧ f 1 = .slice a2 b.length c2 ∧ f 7 = x ∧ f 9 = .int .i64 (S - n : Nat) ∧ Cxr w0 w1 [] [⟨43, 2, x, pr.length + n, (pr ++ ends a.length b.length S n).flatMap qrow⟩]) (S) ?_ ?_
  · skip
    exact ⟨0, _, by omega, hs0, hs1, rfl, rfl, by rw [show ends a.length b.length S 0 = [] from rfl, List.append_nil]; exact cx⟩
  intro gk15 f w hJ
  obtain ⟨n, x, hkn, hs0, hs1, hs7, hs9, cx⟩ := hJ
  refine wp_seq ?_
  refine wp_seq ?_
  refine wp_region_lit ?_
  refine s_val rfl rfl (v_move rfl hs9) ?_
  refine s_val rfl rfl (v_cmp rfl rfl rfl rfl) ?_
  refine wpList_nil ?_
  refine c_split rfl (fun hc99 => ?_) (fun hc99 => ?_)
  · skip
    try simp only [bsl] at hc99
    refine wp_skip ?_
    refine wp_seq ?_
    refine wp_block ?_
    refine wp_region_lit ?_
    refine s_val rfl rfl (v_move rfl hs7) ?_
    refine s_val rfl rfl (v_move rfl hs0) ?_
    refine s_val rfl rfl (v_lenSlice rfl rfl Try.underlying30) ?_
    refine s_val rfl rfl (v_move rfl hs9) ?_
    refine s_val rfl rfl (v_subQ rfl rfl rfl (r := ((a.length - (S - n) : Nat) : Int)) (by omega) (by omega) (by omega)) ?_
    refine s_val rfl rfl (v_move rfl hs1) ?_
    refine s_val rfl rfl (v_lenSlice rfl rfl Try.underlying30) ?_
    refine s_val rfl rfl (v_move rfl hs9) ?_
    refine s_val rfl rfl (v_subQ rfl rfl rfl (r := ((b.length - (S - n) : Nat) : Int)) (by omega) (by omega) (by omega)) ?_
    refine s_val rfl rfl (v_build (bd43 _ _) rfl rfl) ?_
    refine s_bsl1 cx Try.underlying41 sz43 z43 rfl rfl rfl rfl rfl rfl rfl rfl ?_; intro b112 w cx hb112 hw112
    refine s_appendG (m := 1) cx ei43 Try.underlying41 rfl rfl rfl rfl rfl (cx.row 0 rfl) rfl rfl (by omega) ?_; intro v113 w cx hgr113 hnw113
    replace cx := cx.drop 1
    refine s_val rfl rfl (v_assign rfl rfl) ?_
    refine wpList_nil ?_
    refine wp_region_lit ?_
    refine s_val rfl rfl (v_move rfl hs9) ?_
    refine s_val rfl rfl (v_sub rfl rfl rfl (by omega) (by omega)) ?_
    refine s_val rfl rfl (v_assign rfl rfl) ?_
    refine wpList_nil ?_
    refine ⟨gk15 - 1, _, by omega, rfl, n + 1, v113, by omega, hs0, hs1, rfl, by show Value.int .i64 _ = _; congr 1; omega, ?_⟩
    rw [ends_succ, ← List.append_assoc, qflat_snoc]
    exact cx
  try simp only [bsl] at hc99
  refine wp_exit ?_
  refine wp_seq ?_
  refine wp_region_lit ?_
  refine s_val rfl rfl (v_move rfl hs7) ?_
  refine s_val rfl rfl (v_assign rfl rfl) ?_
  refine wpList_nil ?_
  refine wp_ret ?_
  refine ret_tmp Try.results25 rfl ?_
  obtain rfl : n = S := by omega
  have e1 : (pr ++ ends a.length b.length n n) = common E a b := by rw [hpr, hCd]
  have e2 : pr.length + n = (common E a b).length := by rw [← e1, List.length_append, ends_len]
  rw [e1, e2] at cx
  exact ⟨cx.ext, cx.head⟩
end Go.Proofs.Ytmkihcdcgkdilaa
end
section
namespace Go.Proofs.Ytmkihcdcgkdilaa
open Go Go.Dk Go.RowKit
set_option linter.unusedSimpArgs false
set_option linter.unusedVariables false
attribute [local irreducible] Go.wpList Go.Code.wp Go.bodyPost Go.wpStill Go.wpQuiet
theorem qflat_at {l : List (Nat × Nat)} {i : Nat} {q : Nat × Nat} (h : l[i]? = some q) : (l.flatMap qrow)[i * 2]? = some (.int .i64 (q.1 : Int)) ∧ (l.flatMap qrow)[i * 2 + 1]? = some (.int .i64 (q.2 : Int)) := by
  induction l generalizing i with
  | nil => simp at h
  | cons x l ih =>
    cases i with
    | zero =>
      simp only [List.getElem?_cons_zero, Option.some.injEq] at h
      subst h
      exact ⟨rfl, rfl⟩
    | succ i =>
      have := ih (i := i) (by simpa using h)
      rw [List.flatMap_cons, show (i + 1) * 2 = i * 2 + 2 by omega, show i * 2 + 2 + 1 = (i * 2 + 1) + 2 by omega]
      exact this
theorem v_iaR {P : Program} {o : Oper} {w : World} {ρ : Operand → Value} {x ix : Operand} {t e : TypeId} {s b k len r : Nat} {m : Int} {kd : IntKind} (hu : P.underlying t = some (.array len e)) (hs : (P.info? e).map (·.size) = some s) (ho : o.op = .indexAddr t x ix)
    (hx : ρ x = .pointer (some ⟨b, k, none⟩)) (hi : ρ ix = .int kd m) (h0 : 0 ≤ m) (h1 : m < len) (he : k + m.toNat * s = r) :
    (execOp ρ o).run P w = .ok (.value (.pointer (some ⟨b, r, none⟩))) w := by
  subst he; exact v_iaA hu hs ho hx hi h0 h1
end Go.Proofs.Ytmkihcdcgkdilaa
end
section
set_option linter.unusedVariables false
set_option linter.unusedSimpArgs false
namespace Go.Dk
open Go Go.RowKit
variable {E : V → V → Bool}
theorem lcs_nr (a : List V) : lcs E a [] = 0 := by cases a <;> rfl
theorem lcs_cc (x y : V) (a b : List V) : lcs E (x :: a) (y :: b) = if E x y then max (max (lcs E (x :: a) b) (lcs E a (y :: b))) (lcs E a b + 1) else max (lcs E (x :: a) b) (lcs E a (y :: b)) := rfl
theorem lcs_ml (x : V) (a : List V) : ∀ b, lcs E a b ≤ lcs E (x :: a) b
  | [] => by rw [lcs_nr]; omega
  | y :: b => by rw [lcs_cc]; split <;> omega
theorem lcs_mr (y : V) (b : List V) : ∀ a, lcs E a b ≤ lcs E a (y :: b)
  | [] => Nat.le_refl _
  | x :: a => by rw [lcs_cc]; split <;> omega
theorem lcs_ll (x : V) (a : List V) : ∀ b, lcs E (x :: a) b ≤ lcs E a b + 1
  | [] => by rw [lcs_nr]; omega
  | y :: b => by
    have h1 := lcs_ll x a b
    have h2 := lcs_mr (E := E) y b a
    rw [lcs_cc]; split <;> omega
theorem lcs_lr (y : V) (b : List V) : ∀ a, lcs E a (y :: b) ≤ lcs E a b + 1
  | [] => by simp [lcs]
  | x :: a => by
    have h1 := lcs_lr y b a
    have h2 := lcs_ml (E := E) x a b
    rw [lcs_cc]; split <;> omega
theorem lcs_pre {x y : V} (h : E x y = true) (a b : List V) : lcs E (x :: a) (y :: b) = lcs E a b + 1 := by
  have h1 := lcs_ll (E := E) x a b
  have h2 := lcs_lr (E := E) y b a
  rw [lcs_cc, if_pos h]; omega
theorem lcs_le_suf (x y : V) : ∀ a b, lcs E (a ++ [x]) (b ++ [y]) ≤ lcs E a b + 1
  | [], b => lcs_ll x [] _
  | x' :: a, [] => by rw [lcs_nr]; exact Nat.le_trans (lcs_lr y [] _) (by rw [lcs_nr]; omega)
  | x' :: a, y' :: b => by
    have h1 := lcs_le_suf x y (x' :: a) b
    have h2 := lcs_le_suf x y a (y' :: b)
    have h3 := lcs_le_suf x y a b
    simp only [List.cons_append] at h1 h2 ⊢
    rw [lcs_cc, lcs_cc]; split <;> omega
theorem lcs_ge_suf {x y : V} (h : E x y = true) : ∀ a b, lcs E a b + 1 ≤ lcs E (a ++ [x]) (b ++ [y])
  | [], [] => by
    show 0 + 1 ≤ lcs E [x] [y]
    rw [lcs_pre h]; omega
  | [], y' :: b => by
    have h1 := lcs_ge_suf h [] b
    have h2 := lcs_mr (E := E) y' (b ++ [y]) ([] ++ [x])
    have e : lcs E [] (y' :: b) = 0 := rfl
    have e2 : lcs E [] b = 0 := rfl
    simp only [List.cons_append] at h1 h2 ⊢
    omega
  | x' :: a, [] => by
    have h1 := lcs_ge_suf h a []
    have h2 := lcs_ml (E := E) x' (a ++ [x]) ([] ++ [y])
    rw [lcs_nr] at h1 ⊢
    simp only [List.cons_append] at h1 h2 ⊢
    omega
  | x' :: a, y' :: b => by
    have h1 := lcs_ge_suf h (x' :: a) b
    have h2 := lcs_ge_suf h a (y' :: b)
    have h3 := lcs_ge_suf h a b
    simp only [List.cons_append] at h1 h2 ⊢
    rw [lcs_cc, lcs_cc]; split <;> omega
theorem lcs_suf {x y : V} (h : E x y = true) (a b : List V) : lcs E (a ++ [x]) (b ++ [y]) = lcs E a b + 1 :=
  Nat.le_antisymm (lcs_le_suf x y a b) (lcs_ge_suf h a b)
theorem drop_getD {l : List V} {p : Nat} (h : p < l.length) : l.drop p = l.getD p nulV :: l.drop (p + 1) := by
  rw [List.drop_eq_getElem_cons h, List.getD, List.getElem?_eq_getElem h]; rfl
theorem lcs_pres {a b : List V} : ∀ P, (∀ j, j < P → j < a.length ∧ j < b.length ∧ E (a.getD j nulV) (b.getD j nulV) = true) → lcs E a b = P + lcs E (a.drop P) (b.drop P)
  | 0, _ => by simp
  | P + 1, h => by
    obtain ⟨h1, h2, h3⟩ := h P (by omega)
    rw [lcs_pres P fun j hj => h j (by omega), drop_getD h1, drop_getD h2, lcs_pre h3]; omega
theorem midL_snoc {l : List V} {p s : Nat} (h : s < l.length - p) : midL l p s = midL l p (s + 1) ++ [l.getD (l.length - 1 - s) nulV] := by
  unfold midL
  obtain ⟨n, hn⟩ : ∃ n, l.length - s - p = n + 1 := ⟨l.length - s - p - 1, by omega⟩
  rw [hn, show l.length - (s + 1) - p = n by omega, List.take_add_one, List.getElem?_drop, List.getD, show p + n = l.length - 1 - s by omega, List.getElem?_eq_getElem (by omega)]
  rfl
theorem lcs_sufs {a b : List V} {P : Nat} : ∀ S, (∀ j, j < S → j < a.length - P ∧ j < b.length - P ∧ E (a.getD (a.length - 1 - j) nulV) (b.getD (b.length - 1 - j) nulV) = true) → lcs E (midL a P 0) (midL b P 0) = S + lcs E (midL a P S) (midL b P S)
  | 0, _ => by simp
  | S + 1, h => by
    obtain ⟨h1, h2, h3⟩ := h S (by omega)
    rw [lcs_sufs S fun j hj => h j (by omega), midL_snoc h1, midL_snoc h2, lcs_suf h3]; omega
theorem midL_zero (l : List V) (p : Nat) : midL l p 0 = l.drop p := by
  unfold midL; exact List.take_of_length_le (by simp)
theorem mst_or (a b : List V) {i : Nat} (hi : i < a.length) : ∀ (d j : Nat), b.length - j = d → mst E a b i j = mst E a b (i + 1) j ∨ ∃ k, j ≤ k ∧ k < b.length ∧ E (a.getD i nulV) (b.getD k nulV) = true ∧ mst E a b i j = mst E a b (i + 1) (k + 1) + 1
  | 0, j, hd => by
    left; rw [mst_m E a b i (by omega), mst_m E a b (i + 1) (by omega)]
  | d + 1, j, hd => by
    have hj : j < b.length := by omega
    have hst := mst_step E a b hi hj
    have hr : mst E a b (i + 1) (j + 1) ≤ mst E a b (i + 1) j := by
      unfold mst; rw [List.drop_eq_getElem_cons hj]; exact lcs_mr _ _ _
    have ga : a.getD i nulV = a[i] := by rw [List.getD, List.getElem?_eq_getElem hi]; rfl
    have gb : b.getD j nulV = b[j] := by rw [List.getD, List.getElem?_eq_getElem hj]; rfl
    by_cases h1 : mst E a b i j = mst E a b (i + 1) j
    · exact .inl h1
    by_cases h2 : E a[i] b[j] = true ∧ mst E a b i j = mst E a b (i + 1) (j + 1) + 1
    · exact .inr ⟨j, Nat.le_refl _, hj, by rw [ga, gb]; exact h2.1, h2.2⟩
    have h3 : mst E a b i j = mst E a b i (j + 1) := by
      split at hst
      · rename_i he
        have : ¬ mst E a b i j = mst E a b (i + 1) (j + 1) + 1 := fun h => h2 ⟨he, h⟩
        omega
      · omega
    have h4 : mst E a b (i + 1) j ≤ mst E a b i j := by split at hst <;> omega
    rcases mst_or a b hi d (j + 1) (by omega) with h | ⟨k, hk1, hk2, hk3, hk4⟩
    · exfalso; omega
    · exact .inr ⟨k, by omega, hk2, hk3, by omega⟩
theorem prt_iff {a b : List V} {i j k : Nat} : prt E a b i j k = true ↔ j ≤ k ∧ E (a.getD i nulV) (b.getD k nulV) = true ∧ mst E a b (i + 1) (k + 1) + 1 = mst E a b i j := by
  unfold prt; simp only [Bool.and_eq_true, decide_eq_true_eq]
theorem sel_length (a b : List V) : ∀ d i j, a.length = i + d → (sel E a b d i j).length = mst E a b i j
  | 0, i, j, h => by rw [mst_n E a b j (by omega)]; rfl
  | d + 1, i, j, h => by
    unfold sel
    split
    · rename_i hc
      split
      · rename_i k hk
        have hp := prt_iff.1 (List.find?_some hk)
        rw [List.length_cons, sel_length a b d (i + 1) (k + 1) (by omega)]; omega
      · rename_i hk
        rw [sel_length a b d (i + 1) j (by omega)]
        rcases mst_or (E := E) a b (i := i) (by omega) _ j rfl with h1 | ⟨k, h1, h2, h3, h4⟩
        · exact h1.symm
        · exfalso
          rw [List.find?_eq_none] at hk
          exact hk k (by simpa using h2) (prt_iff.2 ⟨h1, h3, h4.symm⟩)
    · rename_i hc
      rw [List.length_nil]
      by_cases hj : j < b.length
      · by_cases h0 : mst E a b i j = 0
        · exact h0.symm
        · exact absurd ⟨hj, h0⟩ hc
      · rw [mst_m E a b i (by omega)]
def Up (p q : Nat × Nat) : Prop := p.1 < q.1 ∧ p.2 < q.2
def EqAt (E : V → V → Bool) (a b : List V) (q : Nat × Nat) : Prop := q.1 < a.length ∧ q.2 < b.length ∧ E (a.getD q.1 nulV) (b.getD q.2 nulV) = true
theorem sel_up (a b : List V) : ∀ d i j, a.length = i + d → (∀ q ∈ sel E a b d i j, i ≤ q.1 ∧ j ≤ q.2 ∧ EqAt E a b q) ∧ (sel E a b d i j).Pairwise Up
  | 0, i, j, h => by simp [sel]
  | d + 1, i, j, h => by
    unfold sel
    split
    · split
      · rename_i k hk
        have hp := prt_iff.1 (List.find?_some hk)
        have hk2 : k < b.length := by simpa using List.mem_of_find?_eq_some hk
        obtain ⟨h1, h2⟩ := sel_up a b d (i + 1) (k + 1) (by omega)
        refine ⟨fun q hq => ?_, List.pairwise_cons.2 ⟨fun q hq => ?_, h2⟩⟩
        · rcases List.mem_cons.1 hq with rfl | hq
          · exact ⟨Nat.le_refl _, hp.1, by show i < _; omega, hk2, hp.2.1⟩
          · have := h1 q hq; exact ⟨by omega, by omega, this.2.2⟩
        · have := h1 q hq; exact ⟨by show i < _; omega, by show k < _; omega⟩
      · obtain ⟨h1, h2⟩ := sel_up a b d (i + 1) j (by omega)
        exact ⟨fun q hq => by have := h1 q hq; exact ⟨by omega, this.2⟩, h2⟩
    · simp
theorem midL_getD {l : List V} {p s k : Nat} (h : k < (midL l p s).length) : (midL l p s).getD k nulV = l.getD (p + k) nulV := by
  have hk : k < l.length - s - p := by unfold midL at h; simp only [List.length_take, List.length_drop] at h; omega
  unfold midL
  rw [List.getD, List.getElem?_take, if_pos hk, List.getElem?_drop]; rfl
theorem common_up (E : V → V → Bool) (a b : List V) : (∀ q ∈ common E a b, EqAt E a b q) ∧ (common E a b).Pairwise Up ∧ (common E a b).length = mst E a b 0 0 := by
  have hPa := nPre_a E a b
  have hPb := nPre_b E a b
  have hSa := nSuf_a E a b
  have hSb := nSuf_b E a b
  have hpre : ∀ j, j < nPre E a b → j < a.length ∧ j < b.length ∧ E (a.getD j nulV) (b.getD j nulV) = true := fun j hj => by
    have := upw_all a.length 0 j (by omega) hj
    simp only [qPre, Bool.and_eq_true, decide_eq_true_eq] at this
    exact ⟨by omega, this⟩
  have hsuf : ∀ j, j < nSuf E a b → j < a.length - nPre E a b ∧ j < b.length - nPre E a b ∧ E (a.getD (a.length - 1 - j) nulV) (b.getD (b.length - 1 - j) nulV) = true := fun j hj => by
    have := upw_all (a.length - nPre E a b) 0 j (by omega) hj
    simp only [qSuf, Bool.and_eq_true, decide_eq_true_eq] at this
    exact ⟨by omega, this⟩
  have hlA := midL_len hSa
  have hlB := midL_len hSb
  obtain ⟨hm1, hm2⟩ := sel_up (E := E) (midL a (nPre E a b) (nSuf E a b)) (midL b (nPre E a b) (nSuf E a b)) _ 0 0 (Nat.zero_add _).symm
  have hml := sel_length (E := E) (midL a (nPre E a b) (nSuf E a b)) (midL b (nPre E a b) (nSuf E a b)) _ 0 0 (Nat.zero_add _).symm
  have hmq : ∀ q ∈ mids E a b, q.1 < a.length - nSuf E a b - nPre E a b ∧ q.2 < b.length - nSuf E a b - nPre E a b ∧ E (a.getD (nPre E a b + q.1) nulV) (b.getD (nPre E a b + q.2) nulV) = true := fun q hq => by
    obtain ⟨_, _, h1, h2, h3⟩ := hm1 q hq
    rw [midL_getD h1, midL_getD h2] at h3
    exact ⟨by omega, by omega, h3⟩
  refine ⟨fun q hq => ?_, ?_, ?_⟩
  · unfold common at hq
    rw [List.mem_append, List.mem_append] at hq
    rcases hq with (hq | hq) | hq
    · obtain ⟨i, hi, rfl⟩ := List.mem_map.1 hq
      exact hpre i (by simpa using hi)
    · obtain ⟨q', hq', rfl⟩ := List.mem_map.1 hq
      obtain ⟨h1, h2, h3⟩ := hmq q' hq'
      exact ⟨by show _ + _ < _; omega, by show _ + _ < _; omega, h3⟩
    · obtain ⟨i, hi, rfl⟩ := List.mem_map.1 hq
      have hi' : i < nSuf E a b := by simpa using hi
      obtain ⟨h1, h2, h3⟩ := hsuf (nSuf E a b - 1 - i) (by omega)
      rw [show a.length - 1 - (nSuf E a b - 1 - i) = a.length - (nSuf E a b - i) by omega, show b.length - 1 - (nSuf E a b - 1 - i) = b.length - (nSuf E a b - i) by omega] at h3
      exact ⟨by show _ - _ < _; omega, by show _ - _ < _; omega, h3⟩
  · unfold common
    rw [List.pairwise_append, List.pairwise_append]
    refine ⟨⟨?_, ?_, ?_⟩, ?_, ?_⟩
    · unfold diag
      rw [List.pairwise_map]
      exact List.pairwise_lt_range.imp fun h => ⟨h, h⟩
    · rw [List.pairwise_map]
      exact hm2.imp fun h => ⟨Nat.add_lt_add_left h.1 _, Nat.add_lt_add_left h.2 _⟩
    · intro p hp q hq
      obtain ⟨i, hi, rfl⟩ := List.mem_map.1 hp
      obtain ⟨q', hq', rfl⟩ := List.mem_map.1 hq
      have hi' : i < nPre E a b := by simpa using hi
      exact ⟨by show i < _ + _; omega, by show i < _ + _; omega⟩
    · unfold ends
      rw [List.pairwise_map]
      refine List.pairwise_lt_range.imp_of_mem fun {x y} hx hy h => ?_
      have hx' : x < nSuf E a b := by simpa using hx
      have hy' : y < nSuf E a b := by simpa using hy
      exact ⟨by show _ - _ < _ - _; omega, by show _ - _ < _ - _; omega⟩
    · intro p hp q hq
      obtain ⟨i, hi, rfl⟩ := List.mem_map.1 hq
      have hi' : i < nSuf E a b := by simpa using hi
      rcases List.mem_append.1 hp with hp | hp
      · obtain ⟨j, hj, rfl⟩ := List.mem_map.1 hp
        have hj' : j < nPre E a b := by simpa using hj
        exact ⟨by show j < _ - _; omega, by show j < _ - _; omega⟩
      · obtain ⟨q', hq', rfl⟩ := List.mem_map.1 hp
        obtain ⟨h1, h2, _⟩ := hmq q' hq'
        exact ⟨by show _ + _ < _ - _; omega, by show _ + _ < _ - _; omega⟩
  · unfold common
    rw [List.length_append, List.length_append, List.length_map, diag_len, ends_len]
    unfold mids
    rw [hml]
    have h1 := lcs_pres (E := E) (a := a) (b := b) _ hpre
    have h2 := lcs_sufs (E := E) (a := a) (b := b) _ hsuf
    rw [midL_zero, midL_zero] at h2
    simp only [mst, List.drop_zero]
    omega
end Go.Dk
end
section
set_option linter.unusedVariables false
namespace Go.Dk
open Go Go.RowKit
theorem inc_of {la lb : Nat} : ∀ (l : List (Nat × Nat)) (i j : Nat), (∀ q ∈ l, i ≤ q.1 ∧ j ≤ q.2 ∧ q.1 < la ∧ q.2 < lb) → l.Pairwise Up → i ≤ la → j ≤ lb → IncP la lb (l ++ [(la, lb)]) i j
  | [], i, j, _, _, hi, hj => ⟨hi, hj, Nat.le_refl _, Nat.le_refl _, trivial⟩
  | (x, y) :: l, i, j, h, hp, hi, hj => by
    obtain ⟨h1, h2, h3, h4⟩ := h (x, y) (List.mem_cons_self ..)
    obtain ⟨hp1, hp2⟩ := List.pairwise_cons.1 hp
    have h3' : x < la := h3
    have h4' : y < lb := h4
    refine ⟨h1, h2, Nat.le_of_lt h3, Nat.le_of_lt h4, inc_of l (x + 1) (y + 1) (fun q hq => ?_) hp2 (by omega) (by omega)⟩
    have hu : x < q.1 ∧ y < q.2 := hp1 q hq
    have hb := h q (List.mem_cons_of_mem _ hq)
    exact ⟨by omega, by omega, hb.2.2⟩
theorem inc_common (E : V → V → Bool) (a b : List V) : IncP a.length b.length (common E a b ++ [(a.length, b.length)]) 0 0 := by
  obtain ⟨h1, h2, _⟩ := common_up E a b
  refine inc_of _ 0 0 (fun q hq => ⟨by omega, by omega, ?_⟩) h2 (by omega) (by omega)
  obtain ⟨e1, e2, _⟩ := h1 q hq
  exact ⟨e1, e2⟩
theorem btw_few (E : V → V → Bool) (d : Nat) (p : List Stp) (a b : V) (ha : okd d a) : (btw E d p a b).length ≤ tsz d a + tsz d b := btw_cnt E (inc_common E) d p a b ha
end Go.Dk
end
section
set_option linter.unusedVariables false
set_option linter.unusedSimpArgs false
namespace Go.Dk
open Go Go.RowKit
def Sho (n : Nat) (B S : List Ch) : Prop := S.length ≤ B.length ∧ (S = B ∨ 4096 < n + S.length)
theorem Sho.refl (n : Nat) (B : List Ch) : Sho n B B := ⟨Nat.le_refl _, .inl rfl⟩
theorem Sho.stop {n : Nat} {B : List Ch} (h : 4096 < n) : Sho n B [] := ⟨Nat.zero_le _, .inr (by simpa using h)⟩
theorem Sho.append {n : Nat} {B B' S S' : List Ch} (h : Sho n B S) (h' : Sho (n + S.length) B' S') : Sho n (B ++ B') (S ++ S') := by
  obtain ⟨h1, h2⟩ := h
  obtain ⟨h3, h4⟩ := h'
  refine ⟨by rw [List.length_append, List.length_append]; omega, ?_⟩
  rw [List.length_append]
  rcases h2 with rfl | h2
  · rcases h4 with rfl | h4
    · exact .inl rfl
    · exact .inr (by omega)
  · exact .inr (by omega)
theorem Sho.nil (n : Nat) : Sho n [] [] := Sho.refl n []
theorem Sho.cast {n : Nat} {B B' S : List Ch} (h : Sho n B S) (e : B = B') : Sho n B' S := e ▸ h
theorem Sho.snoc {n : Nat} {B S : List Ch} (h : Sho n B S) (c : Ch) : Sho n (B ++ [c]) (S ++ [c]) := h.append (Sho.refl _ _)
/-! ### maps -/
theorem kepC_append (B : List Stp → V → V → List Ch) (p : List Stp) (fb : Fs) : ∀ (l l' : Fs), kepC B p fb (l ++ l') = kepC B p fb l ++ kepC B p fb l'
  | [], l' => rfl
  | kv :: l, l' => by simp only [List.cons_append, kepC, kepC_append B p fb l l', List.append_assoc]
theorem nkep_append (fb : Fs) : ∀ (l l' : Fs), nkep fb (l ++ l') = nkep fb l + nkep fb l'
  | [], l' => by simp [nkep]
  | kv :: l, l' => by simp only [List.cons_append, nkep, nkep_append fb l l', Nat.add_assoc]
theorem nkep_le (fb : Fs) : ∀ l : Fs, nkep fb l ≤ l.length
  | [] => by simp [nkep]
  | kv :: l => by
    have := nkep_le fb l
    simp only [nkep, List.length_cons]
    split <;> omega
theorem remC_append (p : List Stp) (fb : Fs) : ∀ (l l' : Fs) (n : Nat), remC p fb (l ++ l') n = remC p fb l n ++ remC p fb l' (n + nkep fb l)
  | [], l', n => by simp [remC, nkep]
  | kv :: l, l', n => by
    simp only [List.cons_append, remC, nkep]
    split
    · rw [remC_append p fb l l', show n + 1 + nkep fb l = n + (1 + nkep fb l) by omega]
    · rw [remC_append p fb l l', Nat.zero_add]; rfl
theorem addC_append (p : List Stp) (fa : Fs) : ∀ (l l' : Fs) (n : Nat), addC p fa (l ++ l') n = addC p fa l n ++ addC p fa l' (n + (l.length - nkep fa l))
  | [], l', n => by simp [addC, nkep]
  | kv :: l, l', n => by
    have := nkep_le fa l
    simp only [List.cons_append, addC, nkep, List.length_cons]
    split
    · rw [addC_append p fa l l', show l.length + 1 - (1 + nkep fa l) = l.length - nkep fa l by omega]
    · rw [addC_append p fa l l', show n + (l.length + 1 - (0 + nkep fa l)) = n + 1 + (l.length - nkep fa l) by omega]; rfl
theorem take_snoc {α : Type} {l : List α} {i : Nat} (hi : i < l.length) : l.take (i + 1) = l.take i ++ [l[i]] := by
  rw [List.take_add_one, List.getElem?_eq_getElem hi]; rfl
theorem kepC_take (B : List Stp → V → V → List Ch) (p : List Stp) (fb : Fs) {l : Fs} {i : Nat} (hi : i < l.length) : kepC B p fb (l.take (i + 1)) = kepC B p fb (l.take i) ++ (match hasF l[i].1 fb with | some u => B (p ++ [keyS l[i].1]) l[i].2 u | none => []) := by
  rw [take_snoc hi, kepC_append]; simp only [kepC, List.append_nil]; try rfl
theorem nkep_take (fb : Fs) {l : Fs} {i : Nat} (hi : i < l.length) : nkep fb (l.take (i + 1)) = nkep fb (l.take i) + (if (hasF l[i].1 fb).isSome then 1 else 0) := by
  rw [take_snoc hi, nkep_append]; simp only [nkep, Nat.add_zero]
theorem remC_take (p : List Stp) (fb : Fs) {l : Fs} {i : Nat} (hi : i < l.length) : remC p fb (l.take (i + 1)) 0 = remC p fb (l.take i) 0 ++ (if (hasF l[i].1 fb).isSome then [] else [⟨3, p ++ [keyS l[i].1], nkep fb (l.take i), l[i].2, nulV⟩]) := by
  rw [take_snoc hi, remC_append]; simp only [remC, Nat.zero_add]
theorem addC_take (p : List Stp) (fa : Fs) (n : Nat) {l : Fs} {i : Nat} (hi : i < l.length) : addC p fa (l.take (i + 1)) n = addC p fa (l.take i) n ++ (if (hasF l[i].1 fa).isSome then [] else [⟨2, p ++ [keyS l[i].1], ((n + (i - nkep fa (l.take i)) : Nat) : Int), nulV, l[i].2⟩]) := by
  rw [take_snoc hi, addC_append]; simp only [addC, List.length_take, Nat.min_eq_left (Nat.le_of_lt hi)]
theorem kepC_le (B : List Stp → V → V → List Ch) (p : List Stp) (fb : Fs) (l : Fs) (i : Nat) : (kepC B p fb (l.take i)).length ≤ (kepC B p fb l).length := by
  conv => rhs; rw [← List.take_append_drop i l, kepC_append, List.length_append]
  omega
theorem remC_le (p : List Stp) (fb : Fs) (l : Fs) (i : Nat) : (remC p fb (l.take i) 0).length ≤ (remC p fb l 0).length := by
  conv => rhs; rw [← List.take_append_drop i l, remC_append, List.length_append]
  omega
theorem addC_le (p : List Stp) (fa : Fs) (n : Nat) (l : Fs) (i : Nat) : (addC p fa (l.take i) n).length ≤ (addC p fa l n).length := by
  conv => rhs; rw [← List.take_append_drop i l, addC_append, List.length_append]
  omega
/-! ### lists -/
def aft : List (Nat × Nat) → Nat → Nat → Nat × Nat
  | [], i, j => (i, j)
  | (x, y) :: ps, _, _ => aft ps (x + 1) (y + 1)
theorem aft_append : ∀ (ps qs : List (Nat × Nat)) (i j : Nat), aft (ps ++ qs) i j = aft qs (aft ps i j).1 (aft ps i j).2
  | [], qs, i, j => rfl
  | (x, y) :: ps, qs, i, j => by simp only [List.cons_append, aft, aft_append ps qs]
theorem lstC_append (B : List Stp → V → V → List Ch) (p : List Stp) (a b : List V) : ∀ (ps qs : List (Nat × Nat)) (i j : Nat), lstC B p a b (ps ++ qs) i j = lstC B p a b ps i j ++ lstC B p a b qs (aft ps i j).1 (aft ps i j).2
  | [], qs, i, j => rfl
  | (x, y) :: ps, qs, i, j => by simp only [List.cons_append, lstC, aft, lstC_append B p a b ps qs, List.append_assoc]
theorem lstC_take (B : List Stp → V → V → List Ch) (p : List Stp) (a b : List V) {ps : List (Nat × Nat)} {t : Nat} (ht : t < ps.length) :
    lstC B p a b (ps.take (t + 1)) 0 0 = lstC B p a b (ps.take t) 0 0 ++ gapC B p a b (aft (ps.take t) 0 0).1 (aft (ps.take t) 0 0).2 (ps[t].1 - (aft (ps.take t) 0 0).1) (ps[t].2 - (aft (ps.take t) 0 0).2) := by
  rw [take_snoc ht, lstC_append]
  congr 1
  show lstC B p a b ((ps[t].1, ps[t].2) :: []) _ _ = _
  simp only [lstC, List.append_nil]
theorem aft_take {ps : List (Nat × Nat)} {t : Nat} (ht : t < ps.length) : aft (ps.take (t + 1)) 0 0 = (ps[t].1 + 1, ps[t].2 + 1) := by
  rw [take_snoc ht, aft_append]
  show aft ((ps[t].1, ps[t].2) :: []) _ _ = _
  rfl
theorem lstC_le (B : List Stp → V → V → List Ch) (p : List Stp) (a b : List V) (ps : List (Nat × Nat)) (t : Nat) : (lstC B p a b (ps.take t) 0 0).length ≤ (lstC B p a b ps 0 0).length := by
  conv => rhs; rw [← List.take_append_drop t ps, lstC_append, List.length_append]
  omega
theorem inc_aft {la lb : Nat} : ∀ (ps : List (Nat × Nat)) (i j t : Nat) (h : IncP la lb ps i j) (ht : t < ps.length), (aft (ps.take t) i j).1 ≤ ps[t].1 ∧ (aft (ps.take t) i j).2 ≤ ps[t].2 ∧ ps[t].1 ≤ la ∧ ps[t].2 ≤ lb
  | [], i, j, t, h, ht => by simp at ht
  | (x, y) :: ps, i, j, 0, h, ht => by
    simp only [IncP] at h
    simp only [List.take_zero, aft, List.getElem_cons_zero]
    omega
  | (x, y) :: ps, i, j, t + 1, h, ht => by
    simp only [IncP] at h
    simp only [List.take_succ_cons, aft, List.getElem_cons_succ]
    exact inc_aft ps (x + 1) (y + 1) t h.2.2.2.2 (by simpa using ht)
end Go.Dk
namespace Go.Dk
open Go Go.RowKit
/-! ### within a gap -/
def gp1 (B : List Stp → V → V → List Ch) (p : List Stp) (a b : List V) (i j s : Nat) : List Ch := (List.range s).flatMap (fun t => B (p ++ [idxS (j + t)]) (a.getD (i + t) nulV) (b.getD (j + t) nulV))
def gp2 (p : List Stp) (a : List V) (i j n s : Nat) : List Ch := (List.range s).map (fun t => ⟨3, p ++ [idxS (j + n)], 0, a.getD (i + n + t) nulV, nulV⟩)
def gp3 (p : List Stp) (b : List V) (j m s : Nat) : List Ch := (List.range s).map (fun t => ⟨2, p ++ [idxS (j + m + t)], 0, nulV, b.getD (j + m + t) nulV⟩)
theorem gapC_eq (B : List Stp → V → V → List Ch) (p : List Stp) (a b : List V) (i j m n : Nat) : gapC B p a b i j m n = gp1 B p a b i j (min m n) ++ gp2 p a i j n (m - n) ++ gp3 p b j m (n - m) := rfl
theorem gp1_succ (B : List Stp → V → V → List Ch) (p : List Stp) (a b : List V) (i j s : Nat) : gp1 B p a b i j (s + 1) = gp1 B p a b i j s ++ B (p ++ [idxS (j + s)]) (a.getD (i + s) nulV) (b.getD (j + s) nulV) := by
  unfold gp1; rw [List.range_succ, List.flatMap_append]; simp
theorem gp2_succ (p : List Stp) (a : List V) (i j n s : Nat) : gp2 p a i j n (s + 1) = gp2 p a i j n s ++ [⟨3, p ++ [idxS (j + n)], 0, a.getD (i + n + s) nulV, nulV⟩] := by
  unfold gp2; rw [List.range_succ, List.map_append]; rfl
theorem gp3_succ (p : List Stp) (b : List V) (j m s : Nat) : gp3 p b j m (s + 1) = gp3 p b j m s ++ [⟨2, p ++ [idxS (j + m + s)], 0, nulV, b.getD (j + m + s) nulV⟩] := by
  unfold gp3; rw [List.range_succ, List.map_append]; rfl
theorem gp1_le (B : List Stp → V → V → List Ch) (p : List Stp) (a b : List V) (i j : Nat) {s t : Nat} (h : s ≤ t) : (gp1 B p a b i j s).length ≤ (gp1 B p a b i j t).length := by
  obtain ⟨r, rfl⟩ := Nat.exists_eq_add_of_le h
  induction r with
  | zero => exact Nat.le_refl _
  | succ r ih =>
    rw [← Nat.add_assoc, gp1_succ, List.length_append]
    have := ih (by omega)
    omega
theorem gp2_len (p : List Stp) (a : List V) (i j n s : Nat) : (gp2 p a i j n s).length = s := by simp [gp2]
theorem gp3_len (p : List Stp) (b : List V) (j m s : Nat) : (gp3 p b j m s).length = s := by simp [gp3]
theorem gapC_M (B : List Stp → V → V → List Ch) (p : List Stp) (a b : List V) (i j m n M : Nat) (hM : M = min m n) : gapC B p a b i j m n = gp1 B p a b i j M ++ gp2 p a i j M (m - n) ++ gp3 p b j M (n - m) := by
  rw [gapC_eq, ← hM]
  have h2 : gp2 p a i j n (m - n) = gp2 p a i j M (m - n) := by
    rcases Nat.le_total m n with h | h
    · rw [show m - n = 0 by omega]; rfl
    · rw [show M = n by omega]
  have h3 : gp3 p b j m (n - m) = gp3 p b j M (n - m) := by
    rcases Nat.le_total n m with h | h
    · rw [show n - m = 0 by omega]; rfl
    · rw [show M = m by omega]
  rw [h2, h3]
theorem gp1_zero (B : List Stp → V → V → List Ch) (p : List Stp) (a b : List V) (i j : Nat) : gp1 B p a b i j 0 = [] := rfl
theorem gp2_zero (p : List Stp) (a : List V) (i j n : Nat) : gp2 p a i j n 0 = [] := rfl
theorem gp3_zero (p : List Stp) (b : List V) (j m : Nat) : gp3 p b j m 0 = [] := rfl
end Go.Dk
namespace Go.Dk
open Go Go.RowKit
section
variable {E : V → V → Bool} {d : Nat} {p : List Stp} {a b : V}
theorem btw_eq (h : E a b = true) : btw E (d + 1) p a b = [] := by unfold btw; rw [if_pos h]
theorem btw_map (h : E a b = false) (h1 : a.sc.kind = 7) (h2 : b.sc.kind = 7) : btw E (d + 1) p a b = kepC (btw E d) p b.fields a.fields ++ remC p b.fields a.fields 0 ++ addC p a.fields b.fields (nkep b.fields a.fields) := by
  conv => lhs; unfold btw
  rw [if_neg (by rw [h]; simp), if_pos ⟨h1, h2⟩]
theorem btw_lst (h : E a b = false) (hk : ¬ (a.sc.kind = 7 ∧ b.sc.kind = 7)) (h1 : a.sc.kind = 6) (h2 : b.sc.kind = 6) : btw E (d + 1) p a b = lstC (btw E d) p a.list b.list (common E a.list b.list ++ [(a.list.length, b.list.length)]) 0 0 := by
  conv => lhs; unfold btw
  rw [if_neg (by rw [h]; simp), if_neg hk, if_pos ⟨h1, h2⟩]
theorem btw_rep (h : E a b = false) (hk : ¬ (a.sc.kind = 7 ∧ b.sc.kind = 7)) (hl : ¬ (a.sc.kind = 6 ∧ b.sc.kind = 6)) : btw E (d + 1) p a b = [⟨1, p, 0, a, b⟩] := by
  conv => lhs; unfold btw
  rw [if_neg (by rw [h]; simp), if_neg hk, if_neg hl]
end
end Go.Dk
end
section
namespace Go.Proofs.Ytmkihcdcgkdilaa
open Go Go.Dk Go.RowKit
set_option linter.unusedSimpArgs false
set_option linter.unusedVariables false
attribute [local irreducible] Go.wpList Go.Code.wp Go.bodyPost Go.wpStill
set_option maxRecDepth 10000 in
theorem c120 (A : Nat → Prop) (l : List UInt8) (s : Value) (w0 : World) (hA : ∀ b, A b → b < w0.heap.size) (hv : RepB A w0 s l) (hl : l.length ≤ 1048576) : Fc Try.prog 120 [s] w0 (fun v w' => RepB (Fr w0 w') w' v l) := by
  obtain ⟨a, c, rfl, hcell⟩ := repB_cells hv
  refine ret_enter Try.func120 rfl Try.ntmps120 rfl ?_
  have cx := Ctx.start w0
  refine wp_seq ?_
  refine wp_region_lit ?_
  refine s_val rfl rfl (v_assign rfl rfl) ?_
  refine wpList_nil ?_
  refine wp_seq ?_
  refine wp_seq ?_
  refine wp_region_lit ?_
  refine s_val rfl rfl (v_move rfl rfl) ?_
  refine s_val rfl rfl (v_slNil rfl rfl rfl Try.underlying29) ?_
  refine wpList_nil ?_
  refine c_split rfl (fun hc4 => ?_) (fun hc4 => ?_)
  · skip
    try simp only [bsl] at hc4
    refine wp_seq ?_
    refine wp_region_lit ?_
    refine s_val rfl rfl (v_assign rfl rfl) ?_
    refine wpList_nil ?_
    refine wp_ret ?_
    refine ret_tmp Try.results120 rfl ?_
    refine ⟨cx.ext, ?_⟩
    cases a with
    | some ad => cases hc4
    | none =>
      have h0 : l.length = 0 := by
        obtain ⟨b, o, hs, _⟩ := hv
        rcases hs with ⟨h0, _⟩ | ⟨ad, cap, e, _⟩
        · exact h0
        · cases e
      have : l = [] := List.eq_nil_of_length_eq_zero h0
      subst this
      exact ⟨0, 0, .inl ⟨rfl, rfl⟩, fun j x hj => by simp at hj⟩
  try simp only [bsl] at hc4
  cases a with
  | none => cases hc4
  | some ad => _
  have hca := hcell ad rfl
  refine wp_skip ?_
  refine wp_seq ?_
  refine wp_region_lit ?_
  refine s_bsl0 cx Try.underlying29 sz5 rfl rfl rfl ?_; intro b5 w cx hb5 hw5
  refine s_val rfl rfl (v_move rfl rfl) ?_
  replace cx := cx.toRow (k := 0) (size := 1) (cs := []) rfl (by decide)
  refine s_appendH (m := l.length) (news := l.map byteVal) cx ei5 Try.underlying29 rfl rfl rfl rfl rfl (fun j u hu => ?_) (by simp) ?_ (by omega) ?_
  · rw [World.cell?_of_block (w := w0) (a := ad.add j) ((cx.ext).block _ (by have := block_lt_of_cell (hca j u hu); simpa [Addr.add] using this))]; exact hca j u hu
  · simp [List.all_eq_true, byteVal, Value.oneCell']
  intro v7 w cx hgr7 hnw7
  refine s_val rfl rfl (v_assign rfl rfl) ?_
  refine wpList_nil ?_
  refine wp_ret ?_
  refine ret_tmp Try.results120 rfl ?_
  refine ⟨cx.ext, ?_⟩
  refine RepB.mono (fun b hb => ?_) (fun _ _ => rfl) (byt_of_row cx.head (by simp))
  exact Made_lt cx.head b hb
set_option maxRecDepth 10000 in
theorem c88 : ∀ (k : Nat) (v : V) (r : List Value) (dd : Int) (w0 : World), deep k v → (k : Int) ≤ dd → dd ≤ 1000000 → Val w0 v r → Fine v → Fc Try.prog 88 [.agg r.toArray, .int .i64 dd] w0 (fun x w' => Made w0 w' v x) := by
  intro k
  induction k with
  | zero => intro v r dd w0 hd; exact hd.elim
  | succ k ih =>
  intro v r dd w0 hd hdd hdm hv hfin
  have hself := hfin.self
  obtain ⟨bs, ls, fs, rfl, hbs, hls, hfs⟩ := hv.open
  obtain ⟨la, lc, lb, lo, rfl, hla, hlget⟩ := hls.open
  obtain ⟨fa, fc, fb, fo, rfl, hfa, hfget⟩ := hfs.open
  refine ret_enter Try.func88 rfl Try.ntmps88 rfl ?_
  have cx := Ctx.start w0
  refine wp_seq ?_
  refine wp_region_lit ?_
  refine s_box cx rfl rfl rfl rfl rfl ?_; intro b2 w cx hb2 hw2
  refine s_alloc cx z33 rfl rfl rfl ?_; intro b4 w cx hb4 hw4
  refine wpList_nil ?_
  refine wp_seq ?_
  refine wp_region_lit ?_
  refine s_val rfl rfl (v_fa fa33_5 rfl rfl) ?_
  refine s_val rfl rfl (v_load1 rfl rfl Try.underlying29 rfl (cx.cell 1 rfl rfl)) ?_
  have cxo := cx
  refine s_fn cx (c120 (fun b => b < w0.heap.size) v.bytes bs _ (fun b hb => Nat.lt_of_lt_of_le hb cx.ext.size) (RepB.mono (fun _ h => h) (fun b hb => cx.ext.block b hb) hbs) hfin.self.2.2.1) Try.func120 rfl rfl rfl rfl rfl rfl ?_; intro q13 w cx hw13 hp13
  have hp13' := hp13.form
  have hq13 : q13.oneCell' = true := by obtain ⟨_, _, _, _, rfl, _⟩ := hp13'; rfl
  have hK := Kp.dn w0 w [b2, b4] (.slice none 0 0)
  have hB0 := RepB.mono (Dn.new (w0 := w0) (ids := [b2, b4]) (v := .slice none 0 0) (v' := .slice none 0 0) cxo.ext.size (Nat.le_refl _) (fun i hi => (cxo.lts i (by rcases (by simpa using hi : i = b2 ∨ i = b4) with rfl | rfl <;> simp)).2) (by simp [Value.ownBlock]) (Nat.le_refl _) (by simp [Value.ownBlock])) (fun _ _ => rfl) hp13
  refine s_val rfl rfl (v_fa fa33_5 rfl rfl) ?_
  refine s_store1G cx 1 rfl rfl rfl rfl rfl hq13 rfl rfl rfl ?_; intro w cx hg14
  replace hK := hK.dnId hg14 (by simp)
  refine wpList_nil ?_
  refine wp_seq ?_
  refine wp_seq ?_
  refine wp_region_lit ?_
  refine s_val rfl rfl (v_move rfl rfl) ?_
  refine s_val rfl rfl (v_cmp rfl rfl rfl rfl) ?_
  refine wpList_nil ?_
  refine c_split rfl (fun hc16 => ?_) (fun hc16 => ?_)
  · skip
    try simp only [bsl] at hc16
    exfalso
    omega
  try simp only [bsl] at hc16
  refine wp_skip ?_
  refine wp_seq ?_
  refine wp_region_lit ?_
  refine s_val rfl rfl (v_assign rfl rfl) ?_
  refine wpList_nil ?_
  refine wp_seq ?_
  refine wp_seq ?_
  refine wp_region_lit ?_
  replace cx := cx.nilRow 33 13
  refine s_val rfl rfl (v_fa fa33_6 rfl rfl) ?_
  refine s_val rfl rfl (v_load1 rfl rfl Try.underlying30 rfl (cx.cell 1 rfl rfl)) ?_
  refine s_val rfl rfl (v_lenSlice rfl rfl Try.underlying30) ?_
  refine s_val rfl rfl (v_move rfl rfl) ?_
  refine wpList_nil ?_
  refine wp_block ?_
  refine w_loop (fun k f w1 => ∃ (i : Nat) (x : Value) (rs : List (List Value)), k + i = v.list.length ∧ f 1 = .int .i64 dd ∧ f 2 = .pointer (some ⟨b2, 0, none⟩) ∧ f 4 = .pointer (some ⟨b4, 0, none⟩) ∧ f 21 = .slice la v.list.length lc ∧ f 22 = .int .i64 v.list.length ∧ f 23 = .int .i64 i ∧ f 5 = x ∧ Cxr w0 w1 [(b4, .cells ([.int .i64 0, .bool false, .bool false, .string ByteArray.empty, .int .i64 0, .int .i64 0, .int .i64 0, .int .i64 0, .int .i64 0, .string ByteArray.empty, .slice none 0 0, .slice none 0 0, .slice none 0 0] : List Value).toArray 33), (b2, .cells (vrow v.sc q13 (.slice la v.list.length lc) (.slice fa v.fields.length fc)).toArray 33)] [⟨33, 13, x, i, rs.flatten⟩] ∧ RepB (Dn w0 w1 [b2, b4] x) w1 q13 v.bytes ∧ RowsV (Dn w0 w1 [b2, b4] x) w1 (v.list.take i) rs) (v.list.length) ?_ ?_
  · skip
    exact ⟨0, _, [], by omega, rfl, rfl, rfl, rfl, rfl, rfl, rfl, cx, RepB.mono (fun b hb => ⟨⟨hb.1.1, Nat.lt_of_lt_of_le hb.1.2 hK.sz⟩, hb.2⟩) hK.kp hB0, trivial⟩
  intro gk7 f w hJ
  obtain ⟨i, x, rs, hk, hs1, hs2, hs4, hs21, hs22, hs23, hs5, cx, hB, hrows⟩ := hJ
  have hK := Kp.dn w0 w [b2, b4] x
  refine wp_seq ?_
  refine wp_region_lit ?_
  refine s_val rfl rfl (v_cmp rfl hs23 hs22 rfl) ?_
  refine wpList_nil ?_
  refine wp_seq ?_
  refine c_split rfl (fun hc24 => ?_) (fun hc24 => ?_)
  · skip
    try simp only [bsl] at hc24
    obtain rfl := hla (by omega)
    obtain ⟨r, hr, hrv⟩ := hlget i v.list[i] (List.getElem?_eq_getElem (by omega))
    refine wp_skip ?_
    refine wp_seq ?_
    refine wp_block ?_
    refine wp_seq ?_
    refine wp_region_lit ?_
    refine s_val rfl rfl (v_ia Try.underlying30 sz33 rfl hs21 hs23 (by omega) (by omega)) ?_
    refine s_val rfl rfl (v_load rfl rfl Try.underlying33 rfl sz33 (hr.up cx.ext) (hrv.len)) ?_
    refine s_alloc cx z33 rfl rfl rfl ?_; intro b7 w cx hb7 hw7
    have hl7 := Nat.le_trans hK.sz (Nat.le_of_eq hb7)
    replace hK := hK.below hw7
    refine s_storeAllG cx 0 rfl rfl rfl rfl rfl rfl (by rw [hrv.len]; exact sz33) (by rw [hrv.len]; rfl) hrv.oneCell ?_; intro w cx hg7
    replace hK := hK.later hg7 hl7
    refine wpList_nil ?_
    refine wp_region_lit ?_
    refine s_val rfl rfl (v_move rfl hs5) ?_
    refine s_val rfl rfl (v_load rfl rfl Try.underlying33 rfl sz33 (cx.row 0 rfl) hrv.len) ?_
    refine s_val rfl rfl (v_move rfl hs1) ?_
    refine s_val rfl rfl (v_sub rfl rfl rfl (by omega) (by omega)) ?_
    have cxc := cx
    refine s_fn cx (ih _ r _ _ (hd.1 _ (List.getElem_mem _)) (by omega) (by omega) (hrv.up cx.ext) (hfin.elem (List.getElem_mem _))) Try.func88 rfl rfl rfl rfl rfl rfl ?_; intro q31 w cx hw31 hp31
    obtain ⟨r31, rfl, hm31⟩ := hp31.rep
    replace hK := hK.below hw31
    have hKn := Kp.fr hw31
    refine s_bsl1 cx Try.underlying30 sz33 z33 rfl rfl rfl rfl rfl rfl rfl hm31.len ?_; intro b32 w cx hb32 hw32
    replace hK := hK.below hw32
    replace hKn := hKn.below hw32
    have hm0 := hK.sz
    have hm1 := hKn.sz
    refine s_appendG (m := 1) cx ei33 Try.underlying30 rfl rfl rfl rfl rfl (cx.row 0 rfl) hm31.len hm31.one (by omega) ?_; intro v33 w cx hgr33 hnw33
    replace hK := hK.dnOwn hgr33
    replace hKn := hKn.frOwn hgr33 (fun q hq => (Made_lt cxc.head q hq).2)
    refine s_val rfl rfl (v_assign rfl rfl) ?_
    refine wpList_nil ?_
    refine wp_region_lit ?_
    refine s_val rfl rfl (v_add rfl hs23 rfl (by omega) (by omega)) ?_
    refine s_val rfl rfl (v_move rfl rfl) ?_
    refine wpList_nil ?_
    have hst := Dn.step (w0 := w0) (ids := [b2, b4]) hK.sz hm0 hnw33
    have hnd := Dn.new (w0 := w0) (ids := [b2, b4]) cxc.ext.size hKn.sz (fun i hi => (cxc.lts i (by rcases (by simpa using hi : i = b2 ∨ i = b4) with rfl | rfl <;> simp)).2) (fun q hq => (Made_lt cxc.head q hq).2) hm1 hnw33
    refine ⟨gk7 - 1, _, by omega, rfl, i + 1, v33, rs ++ [r31], by omega, hs1, hs2, hs4, hs21, hs22, rfl, rfl, by simpa using cx.drop 2, RepB.mono hst hK.kp hB, ?_⟩
    rw [List.take_succ_eq_append_getElem (by omega)]
    exact RowsV.snoc _ _ (RowsV.mono hst hK.kp _ _ hrows) (RepV.mono hnd hKn.kp _ _ hm31)
  try simp only [bsl] at hc24
  refine wp_exit ?_
  refine wp_seq ?_
  refine wp_region_lit ?_
  have hi : i = v.list.length := by omega
  subst hi
  rw [List.take_of_length_le (Nat.le_refl _)] at hrows
  have hL0 := RepL.mono (Dn.join (ids := [b2, b4]) cx (by intro i hi; rcases (by simpa using hi : i = b2 ∨ i = b4) with rfl | rfl <;> simp)) (fun _ _ => rfl) (lstA_of_row cx.head rfl hrows (fun _ _ => rfl))
  replace hB := RepB.mono Dn.nil (fun _ _ => rfl) hB
  obtain ⟨x5, hx5⟩ : ∃ x5, x5 = x := ⟨_, rfl⟩
  subst hx5
  replace cx := (cx.dropR 1).nilRow 77 14
  refine s_val rfl rfl (v_assign rfl rfl) ?_
  refine wpList_nil ?_
  refine wp_seq ?_
  refine wp_seq ?_
  refine wp_region_lit ?_
  refine s_val rfl rfl (v_fa fa33_7 rfl hs2) ?_
  refine s_val rfl rfl (v_load1 rfl rfl Try.underlying31 rfl (cx.cell 1 rfl rfl)) ?_
  refine s_val rfl rfl (v_lenSlice rfl rfl Try.underlying31) ?_
  refine s_val rfl rfl (v_move rfl rfl) ?_
  refine wpList_nil ?_
  refine wp_block ?_
  refine w_loop (fun k f w1 => ∃ (i : Nat) (x : Value) (rs : List (List Value)), k + i = v.fields.length ∧ f 1 = .int .i64 dd ∧ f 2 = .pointer (some ⟨b2, 0, none⟩) ∧ f 4 = .pointer (some ⟨b4, 0, none⟩) ∧ f 36 = .slice fa v.fields.length fc ∧ f 37 = .int .i64 v.fields.length ∧ f 38 = .int .i64 i ∧ f 5 = x5 ∧ f 8 = x ∧ Cxr w0 w1 [(b4, .cells ([.int .i64 0, .bool false, .bool false, .string ByteArray.empty, .int .i64 0, .int .i64 0, .int .i64 0, .int .i64 0, .int .i64 0, .string ByteArray.empty, .slice none 0 0, .slice none 0 0, .slice none 0 0] : List Value).toArray 33), (b2, .cells (vrow v.sc q13 (.slice la v.list.length lc) (.slice fa v.fields.length fc)).toArray 33)] [⟨77, 14, x, i, rs.flatten⟩] ∧ RepB (Dn w0 w1 [b2, b4] x) w1 q13 v.bytes ∧ RepL (Dn w0 w1 [b2, b4] x) w1 x5 v.list ∧ RowsF (Dn w0 w1 [b2, b4] x) w1 (v.fields.take i) rs) (v.fields.length) ?_ ?_
  · skip
    exact ⟨0, _, [], by omega, hs1, hs2, hs4, rfl, rfl, rfl, hs5, rfl, cx, hB, hL0, trivial⟩
  intro gk13 f w hJ
  obtain ⟨i, x, rs, hk, hs1, hs2, hs4, hs36, hs37, hs38, hs5, hs8, cx, hB, hL, hrows⟩ := hJ
  have hK := Kp.dn w0 w [b2, b4] x
  refine wp_seq ?_
  refine wp_region_lit ?_
  refine s_val rfl rfl (v_cmp rfl hs38 hs37 rfl) ?_
  refine wpList_nil ?_
  refine wp_seq ?_
  refine c_split rfl (fun hc39 => ?_) (fun hc39 => ?_)
  · skip
    try simp only [bsl] at hc39
    obtain rfl := hfa (by omega)
    obtain ⟨r, hr, hrv⟩ := hfget i v.fields[i] (List.getElem?_eq_getElem (by omega))
    obtain ⟨ebs, els, efs, rfl, _⟩ := hrv.open
    refine wp_skip ?_
    refine wp_seq ?_
    refine wp_block ?_
    refine wp_seq ?_
    refine wp_region_lit ?_
    refine s_val rfl rfl (v_ia Try.underlying31 sz77 rfl hs36 hs38 (by omega) (by omega)) ?_
    refine s_val rfl rfl (v_load rfl rfl Try.underlying77 rfl sz77 (hr.up cx.ext) rfl) ?_
    refine s_alloc cx z77 rfl rfl rfl ?_; intro b10 w cx hb10 hw10
    have hl10 := Nat.le_trans hK.sz (Nat.le_of_eq hb10)
    replace hK := hK.below hw10
    refine s_storeAllG cx 0 rfl rfl rfl rfl rfl rfl sz77 rfl (by exact hrv.oneCell) ?_; intro w cx hg10
    replace hK := hK.later hg10 hl10
    refine wpList_nil ?_
    refine w_ord cx (cx.pick1 0 rfl) mixed [(0, 42), (1, 43), (2, 44), (3, 45), (4, 46), (5, 47), (6, 48)] #[true, true, true, true, true, true, true, false, false, false, false, false] (by kernel_rfl) (by kernel_rfl) (by kernel_rfl) (by kernel_rfl) ?_
    refine pu_one rfl (wnt_none rfl) (fun w cx => v_move rfl hs8) ?_
    refine pu_one rfl (wnt_none rfl) (fun w cx => v_fa fa77_0 rfl rfl) ?_
    refine pu_one rfl (wnt_none rfl) (fun w cx => v_load1 rfl rfl Try.underlying9 rfl (cx.cell 0 rfl rfl)) ?_
    refine pu_one rfl (wnt_none rfl) (fun w cx => v_fa fa77_1 rfl rfl) ?_
    refine pu_one rfl (wnt_none rfl) (fun w cx => v_load rfl rfl Try.underlying33 rfl sz33 ((cx.row 0 rfl).rv 1 rfl) rfl) ?_
    refine pu_one rfl (wnt_none rfl) (fun w cx => v_move rfl hs1) ?_
    refine pu_one rfl (wnt_none rfl) (fun w cx => v_sub rfl rfl rfl (by omega) (by omega)) ?_
    refine pu_nil ?_; intro w cx hwD15
    replace hK := hK.below hwD15
    refine x_one (i := 7) (by kernel_rfl) rfl ?_
    have cxc := cx
    refine s_fn cx (ih _ _ _ _ (hd.2 _ (List.getElem_mem _)) (by omega) (by omega) (hrv.up cx.ext) (hfin.field (List.getElem_mem _)).2) Try.func88 rfl rfl rfl rfl rfl rfl ?_; intro q49 w cx hw49 hp49
    obtain ⟨r49, rfl, hm49⟩ := hp49.rep
    replace hK := hK.below hw49
    have hKn := Kp.fr hw49
    obtain ⟨nbs, nls, nfs, rfl, _⟩ := hm49.open
    refine x_next ⟨.inl (cx.pick1 0 rfl), ?_⟩
    refine x_one (i := 8) (by kernel_rfl) rfl ?_
    refine s_val rfl rfl (v_build (bd77 _ _ _ _ _) rfl rfl) ?_
    refine x_next ⟨.inl (cx.pick1 0 rfl), ?_⟩
    refine x_one (i := 9) (by kernel_rfl) rfl ?_
    refine s_bsl1 cx Try.underlying31 sz77 z77 rfl rfl rfl rfl rfl rfl rfl rfl ?_; intro b51 w cx hb51 hw51
    replace hK := hK.below hw51
    replace hKn := hKn.below hw51
    have hm0 := hK.sz
    have hm1 := hKn.sz
    refine x_next ⟨.inl (cx.pick1 1 rfl), ?_⟩
    refine x_one (i := 10) (by kernel_rfl) rfl ?_
    refine s_appendG (m := 1) cx ei77 Try.underlying31 rfl rfl rfl rfl rfl (cx.row 0 rfl) rfl (by exact hm49.one) (by omega) ?_; intro v52 w cx hgr52 hnw52
    replace hK := hK.dnOwn hgr52
    replace hKn := hKn.frOwn hgr52 (fun q hq => (Made_lt cxc.head q hq).2)
    refine x_next ⟨.inr (by kernel_rfl), ?_⟩
    refine x_one (i := 11) (by kernel_rfl) rfl ?_
    refine s_val rfl rfl (v_assign rfl rfl) ?_
    refine x_next ⟨.inr (by kernel_rfl), ?_⟩
    refine x_done (by kernel_rfl) ?_
    refine wp_region_lit ?_
    refine s_val rfl rfl (v_add rfl hs38 rfl (by omega) (by omega)) ?_
    refine s_val rfl rfl (v_move rfl rfl) ?_
    refine wpList_nil ?_
    have hst := Dn.step (w0 := w0) (ids := [b2, b4]) hK.sz hm0 hnw52
    have hnd := Dn.new (w0 := w0) (ids := [b2, b4]) cxc.ext.size hKn.sz (fun i hi => (cxc.lts i (by rcases (by simpa using hi : i = b2 ∨ i = b4) with rfl | rfl <;> simp)).2) (fun q hq => (Made_lt cxc.head q hq).2) hm1 hnw52
    refine ⟨gk13 - 1, _, by omega, rfl, i + 1, v52, rs ++ [.string v.fields[i].1 :: vrow v.fields[i].2.sc nbs nls nfs], by omega, hs1, hs2, hs4, hs36, hs37, rfl, hs5, rfl, by simpa using cx.drop 2, RepB.mono hst hK.kp hB, RepL.mono hst hK.kp hL, ?_⟩
    rw [List.take_succ_eq_append_getElem (by omega)]
    exact RowsF.snoc _ _ (RowsF.mono hst hK.kp _ _ hrows) (RepV.mono hnd hKn.kp _ _ hm49)
  try simp only [bsl] at hc39
  refine wp_exit ?_
  refine wp_seq ?_
  refine wp_region_lit ?_
  have hi : i = v.fields.length := by omega
  subst hi
  rw [List.take_of_length_le (Nat.le_refl _)] at hrows
  have hK := Kp.dn w0 w [b2, b4] x
  refine s_val rfl rfl (v_move rfl hs5) ?_
  refine s_val rfl rfl (v_move rfl hs8) ?_
  refine s_val rfl rfl (v_fa fa33_6 rfl hs2) ?_
  refine s_store1G cx 1 rfl rfl rfl rfl rfl hL.one rfl rfl rfl ?_; intro w cx hg56
  replace hK := hK.dnId hg56 (by simp)
  refine s_val rfl rfl (v_fa fa33_7 rfl hs2) ?_
  refine s_store1G cx 1 rfl rfl rfl rfl rfl (own_one cx.head) rfl rfl rfl ?_; intro w cx hg57
  replace hK := hK.dnId hg57 (by simp)
  refine wpList_nil ?_
  refine wp_seq ?_
  refine wp_region_lit ?_
  refine s_val rfl rfl (v_load rfl hs2 Try.underlying33 rfl sz33 (l := vrow v.sc q13 x5 x) (cx.row 1 rfl) rfl) ?_
  refine s_storeAllG cx 0 rfl rfl rfl hs4 rfl rfl sz33 rfl (vrow_one hq13 hL.one (own_one cx.head)) ?_; intro w cx hg58
  replace hK := hK.dnId hg58 (by simp)
  refine wpList_nil ?_
  refine wp_ret ?_
  refine ret_cell Try.results88 hs4 (cx.at 0 rfl) Try.underlying33 rfl sz33 ⟨cx.ext, q13, x5, x, rs, rfl, ?_, ?_, cx.head, ?_⟩
  · exact RepB.mono (fun b hb => ⟨hb.1.1, Nat.lt_of_lt_of_le hb.1.2 hK.sz⟩) hK.kp hB
  · exact RepL.mono (fun b hb => ⟨hb.1.1, Nat.lt_of_lt_of_le hb.1.2 hK.sz⟩) hK.kp hL
  · exact RowsF.mono (fun b hb => ⟨⟨hb.1.1, Nat.lt_of_lt_of_le hb.1.2 hK.sz⟩, hb.2.2⟩) hK.kp _ _ hrows
end Go.Proofs.Ytmkihcdcgkdilaa
end
section
namespace Go.Proofs.Ytmkihcdcgkdilaa
open Go Go.Dk Go.RowKit
set_option linter.unusedSimpArgs false
set_option linter.unusedVariables false
attribute [local irreducible] Go.wpList Go.Code.wp Go.bodyPost Go.wpStill
set_option maxRecDepth 10000 in
theorem c60 (k : Nat) (v : V) (r : List Value) (w0 : World) (hd : deep k v) (hk : k ≤ 65536) (hv : Val w0 v r) (hf : Fine v) : Fc Try.prog 60 [.agg r.toArray] w0 (fun x w' => Made w0 w' v x) := by
  refine ret_enter Try.func60 rfl Try.ntmps60 rfl ?_
  have cx := Ctx.start w0
  refine wp_seq ?_
  refine wp_region_lit ?_
  refine s_box cx rfl rfl rfl rfl rfl ?_; intro b1 w cx hb1 hw1
  refine s_alloc cx z33 rfl rfl rfl ?_; intro b2 w cx hb2 hw2
  refine wpList_nil ?_
  refine wp_seq ?_
  refine wp_region_lit ?_
  refine s_val rfl rfl (v_load rfl rfl Try.underlying33 rfl sz33 (cx.row 1 rfl) hv.len) ?_
  have cxc := cx
  refine s_fn cx (c88 k v r _ _ hd (by omega) (by omega) (hv.up cx.ext) hf) Try.func88 rfl rfl rfl rfl rfl rfl ?_; intro q4 w cx hw4 hp4
  have hKn := Kp.fr hw4
  obtain ⟨r4, rfl, hm⟩ := hp4.rep
  refine s_storeAllG cx 0 rfl rfl rfl rfl rfl rfl (by rw [hm.len]; exact sz33) (by rw [hm.len]; rfl) hm.one ?_; intro w cx hg2
  replace hKn := hKn.grown hg2 (fun b hb e => by have h1 := (cxc.lts b2 (by simp)).2; have h2 := hb.1; simp at e; omega)
  refine wpList_nil ?_
  refine wp_ret ?_
  exact ret_cell Try.results60 rfl (cx.at 0 rfl) Try.underlying33 rfl (by rw [hm.len]; exact sz33) ⟨cx.ext, hp4.up cxc.ext.size hKn⟩
end Go.Proofs.Ytmkihcdcgkdilaa
end
section
set_option linter.unusedVariables false
set_option linter.unusedSimpArgs false
namespace Go.Dk
open Go Go.RowKit
theorem Cxr.tl {w0 w : World} {x : Nat × Obj} {L : List (Nat × Obj)} {R : List Row} (h : Cxr w0 w (x :: L) R) : Cxr w0 w L R := h.drop 1
theorem Fz.tl {w : World} {x : Nat × Obj} {L : List (Nat × Obj)} {R : List Row} : Fz w (x :: L) R w L R := Fz.dropL 1
theorem set_same {L : List (Nat × Obj)} {i : Nat} {x : Nat × Obj} (h : L[i]? = some x) : L.set i x = L := by
  apply List.ext_getElem?
  intro j
  rw [List.getElem?_set]
  split
  · rename_i e; subst e
    split
    · exact h.symm
    · rename_i hl; rw [List.getElem?_eq_none (by omega)]
  · rfl
def KR (A : Nat → Prop) (w : World) (a : Option Addr) (ks : List ByteArray) : Prop := 0 < ks.length → ∃ g, a = some ⟨g, 0, none⟩ ∧ A g ∧ RowAt w g 0 (ks.map Value.string)
theorem KR.mono {A A' : Nat → Prop} {w w' : World} (hA : ∀ b, A b → A' b) (hk : Keeps A w w') {a : Option Addr} {ks : List ByteArray} (h : KR A w a ks) : KR A' w' a ks := fun h0 => by
  obtain ⟨g, e, h1, h2⟩ := h h0
  exact ⟨g, e, hA g h1, h2.keep (hk g h1)⟩
theorem KR.of {w0 w w' : World} {L : List (Nat × Obj)} {R : List Row} {ks : List ByteArray} {q : Value} (cx : Cxr w0 w L R) (hs : w.heap.size ≤ w'.heap.size) (row : w'.ownsRow w.heap.size 9 1 q ks.length (ks.map Value.string)) : ∃ a c, q = .slice a ks.length c ∧ KR (F w' L R) w' a ks := by
  obtain ⟨a, c, rfl, h⟩ := own_row row
  refine ⟨a, c, rfl, fun h0 => ?_⟩
  obtain ⟨g, rfl, hr⟩ := h h0
  exact ⟨g, rfl, F.fresh cx hs g (row.lt g rfl), hr⟩
theorem Fz.self {w w' : World} {L L' : List (Nat × Obj)} {R R' : List Row} (h : Fz w L R w' L' R') : Fz w' L' R' w' L' R' := Fz.refl _ _ _
def FN (fb g tb : Nat) : Value := .func (.func 89) #[] #[.pointer (some ⟨fb, 0, none⟩), .pointer (some ⟨g, 0, none⟩), .pointer (some ⟨tb, 0, none⟩)]
def TkR (A : Nat → Prop) (w : World) (fb g tb : Nat) (tk : List Bool) : Prop := A fb ∧ RowAt w fb 0 [FN fb g tb] ∧ A tb ∧ ∃ ta tc b o, RowAt w tb 0 [.slice ta tk.length tc] ∧ (0 < tk.length → ta = some ⟨b, o, none⟩ ∧ A b ∧ RowAt w b o (tk.map Value.bool))
theorem TkR.mono {A A' : Nat → Prop} {w w' : World} (hA : ∀ b, A b → A' b) (hk : Keeps A w w') {fb g tb : Nat} {tk : List Bool} (h : TkR A w fb g tb tk) : TkR A' w' fb g tb tk := by
  obtain ⟨h1, h2, h3, ta, tc, b, o, h4, h5⟩ := h
  exact ⟨hA _ h1, h2.keep (hk _ h1), hA _ h3, ta, tc, b, o, h4.keep (hk _ h3), fun h0 => ⟨(h5 h0).1, hA _ (h5 h0).2.1, (h5 h0).2.2.keep (hk _ (h5 h0).2.1)⟩⟩
def FB (B : Nat) (w : World) (L : List (Nat × Obj)) (R : List Row) (b : Nat) : Prop := F w L R b ∧ B ≤ b
section
variable {w0 w w' : World} {L L' : List (Nat × Obj)} {R R' : List Row} {B : Nat}
theorem FB.fresh (cx : Cxr w0 w L R) (hs : w.heap.size ≤ w'.heap.size) (hB : B ≤ w.heap.size) : ∀ b, Fr w w' b → FB B w' L R b := fun b h => ⟨F.fresh cx hs b h, Nat.le_trans hB h.1⟩
end
def MgP (wb w0 : World) (L : List (Nat × Obj)) (R : List Row) (i g : Nat) (v : Value) (n : Nat) (cs : List Value) (C : OV × List Cf) (x : Value) (w' : World) : Prop :=
  ∃ (v' : Value) (rs' : List (List Value)), Cxr wb w' (L.set i (g, .cells ([v'] : List Value).toArray 50)) (⟨94, 4, v', n + C.2.length, cs ++ rs'.flatten⟩ :: R) ∧
    Fz w0 L (⟨94, 4, v, n, cs⟩ :: R) w' (L.set i (g, .cells ([v'] : List Value).toArray 50)) (⟨94, 4, v', n + C.2.length, cs ++ rs'.flatten⟩ :: R) ∧
    PtrO (F w' (L.set i (g, .cells ([v'] : List Value).toArray 50)) (⟨94, 4, v', n + C.2.length, cs ++ rs'.flatten⟩ :: R)) w' x C.1 ∧
    Rws (cfA (FB w0.heap.size w' (L.set i (g, .cells ([v'] : List Value).toArray 50)) (⟨94, 4, v', n + C.2.length, cs ++ rs'.flatten⟩ :: R)) w') C.2 rs'
theorem MgP.none {wb w0 w' : World} {L : List (Nat × Obj)} {R : List Row} {i g : Nat} {v : Value} {n : Nat} {cs : List Value} {r : OV} {x : Value} (hi : L[i]? = some (g, .cells ([v] : List Value).toArray 50)) (cx : Cxr wb w' L (⟨94, 4, v, n, cs⟩ :: R)) (hz : Fz w0 L (⟨94, 4, v, n, cs⟩ :: R) w' L (⟨94, 4, v, n, cs⟩ :: R)) (hx : PtrO (F w' L (⟨94, 4, v, n, cs⟩ :: R)) w' x r) : MgP wb w0 L R i g v n cs (r, []) x w' := by
  refine ⟨v, [], ?_⟩
  rw [set_same hi]
  simp only [List.length_nil, Nat.add_zero, List.flatten_nil, List.append_nil]
  exact ⟨cx, hz, hx, trivial⟩
theorem MgP.cast {wb w0 w' : World} {L : List (Nat × Obj)} {R : List Row} {i g : Nat} {v : Value} {n : Nat} {cs : List Value} {C C' : OV × List Cf} {x : Value} (h : C = C') (hm : MgP wb w0 L R i g v n cs C' x w') : MgP wb w0 L R i g v n cs C x w' := by subst h; exact hm
theorem PthA.sl {A : Nat → Prop} {w : World} {s : Value} {l : List Stp} (h : PthA A w s l) : ∃ a c, s = .slice a l.length c := by
  obtain ⟨b, o, hs, _⟩ := h
  obtain ⟨a, c, rfl, _⟩ := hs.form
  exact ⟨a, c, rfl⟩
theorem RepL.sl {A : Nat → Prop} {w : World} {s : Value} {l : List V} (h : RepL A w s l) : ∃ a c, s = .slice a l.length c := by
  obtain ⟨b, o, hs, _⟩ := h
  obtain ⟨a, c, rfl, _⟩ := hs.form
  exact ⟨a, c, rfl⟩
theorem RepL.fr {w0 w w' : World} {L : List (Nat × Obj)} {R : List Row} {s : Value} {l : List V} (h : RepL (Fr w w') w' s l) (cx : Cxr w0 w L R) (hs : w.heap.size ≤ w'.heap.size) : RepL (F w' L R) w' s l := h.mono (F.fresh cx hs) (fun _ _ => rfl)
theorem rowF_one {A : Nat → Prop} {w : World} {k : ByteArray} {u : V} {r : List Value} (h : RepV A w u r) : (Value.string k :: r).all (·.oneCell') = true := by rw [List.all_cons, h.one]; rfl
def LpS (wb w0 : World) (L : List (Nat × Obj)) (R : List Row) (i g b12 : Nat) (v : Value) (n : Nat) (cs : List Value) (ka : Option Addr) (ks : List ByteArray) (S : Fs × List Cf) (v1 ox : Value) (rs1 ors : List (List Value)) (w1 : World) : Prop :=
  Cxr wb w1 ((b12, .cells (vrow (zk 7) (.slice none 0 0) (.slice none 0 0) ox).toArray 33) :: L.set i (g, .cells ([v1] : List Value).toArray 50)) (⟨77, 14, ox, S.1.length, ors.flatten⟩ :: ⟨94, 4, v1, n + S.2.length, cs ++ rs1.flatten⟩ :: R) ∧ Fz w0 L (⟨94, 4, v, n, cs⟩ :: R) w1 ((b12, .cells (vrow (zk 7) (.slice none 0 0) (.slice none 0 0) ox).toArray 33) :: L.set i (g, .cells ([v1] : List Value).toArray 50)) (⟨77, 14, ox, S.1.length, ors.flatten⟩ :: ⟨94, 4, v1, n + S.2.length, cs ++ rs1.flatten⟩ :: R) ∧ KR (F w1 ((b12, .cells (vrow (zk 7) (.slice none 0 0) (.slice none 0 0) ox).toArray 33) :: L.set i (g, .cells ([v1] : List Value).toArray 50)) (⟨77, 14, ox, S.1.length, ors.flatten⟩ :: ⟨94, 4, v1, n + S.2.length, cs ++ rs1.flatten⟩ :: R)) w1 ka ks ∧ RowsF (F w1 ((b12, .cells (vrow (zk 7) (.slice none 0 0) (.slice none 0 0) ox).toArray 33) :: L.set i (g, .cells ([v1] : List Value).toArray 50)) (⟨77, 14, ox, S.1.length, ors.flatten⟩ :: ⟨94, 4, v1, n + S.2.length, cs ++ rs1.flatten⟩ :: R)) w1 S.1 ors ∧ Rws (cfA (FB w0.heap.size w1 ((b12, .cells (vrow (zk 7) (.slice none 0 0) (.slice none 0 0) ox).toArray 33) :: L.set i (g, .cells ([v1] : List Value).toArray 50)) (⟨77, 14, ox, S.1.length, ors.flatten⟩ :: ⟨94, 4, v1, n + S.2.length, cs ++ rs1.flatten⟩ :: R)) w1) S.2 rs1
theorem LpS.of {wb w0 : World} {L : List (Nat × Obj)} {R : List Row} {i g b12 : Nat} {v : Value} {n : Nat} {cs : List Value} {ka : Option Addr} {ks : List ByteArray} {S : Fs × List Cf} {v1 ox : Value} {rs1 ors : List (List Value)} {w1 : World} {k1 k2 : Nat} {X Y : List Value} (h1 : k1 = S.1.length) (h2 : X = ors.flatten) (h3 : k2 = n + S.2.length) (h4 : Y = cs ++ rs1.flatten)
    (cx : Cxr wb w1 ((b12, .cells (vrow (zk 7) (.slice none 0 0) (.slice none 0 0) ox).toArray 33) :: L.set i (g, .cells ([v1] : List Value).toArray 50)) (⟨77, 14, ox, k1, X⟩ :: ⟨94, 4, v1, k2, Y⟩ :: R)) (hz : Fz w0 L (⟨94, 4, v, n, cs⟩ :: R) w1 ((b12, .cells (vrow (zk 7) (.slice none 0 0) (.slice none 0 0) ox).toArray 33) :: L.set i (g, .cells ([v1] : List Value).toArray 50)) (⟨77, 14, ox, k1, X⟩ :: ⟨94, 4, v1, k2, Y⟩ :: R)) (hk : KR (F w1 ((b12, .cells (vrow (zk 7) (.slice none 0 0) (.slice none 0 0) ox).toArray 33) :: L.set i (g, .cells ([v1] : List Value).toArray 50)) (⟨77, 14, ox, k1, X⟩ :: ⟨94, 4, v1, k2, Y⟩ :: R)) w1 ka ks)
    (hr : RowsF (F w1 ((b12, .cells (vrow (zk 7) (.slice none 0 0) (.slice none 0 0) ox).toArray 33) :: L.set i (g, .cells ([v1] : List Value).toArray 50)) (⟨77, 14, ox, k1, X⟩ :: ⟨94, 4, v1, k2, Y⟩ :: R)) w1 S.1 ors) (hc : Rws (cfA (FB w0.heap.size w1 ((b12, .cells (vrow (zk 7) (.slice none 0 0) (.slice none 0 0) ox).toArray 33) :: L.set i (g, .cells ([v1] : List Value).toArray 50)) (⟨77, 14, ox, k1, X⟩ :: ⟨94, 4, v1, k2, Y⟩ :: R)) w1) S.2 rs1) : LpS wb w0 L R i g b12 v n cs ka ks S v1 ox rs1 ors w1 := by
  subst h1 h2 h3 h4; exact ⟨cx, hz, hk, hr, hc⟩
end Go.Dk
end
