/-
  Contracts: copies of bytes and of values.
-/
import Derived.Test.YtmkihcdcgkdilaaVg
namespace Go.Proofs.Ytmkihcdcgkdilaa
open Go Go.Dk Go.RowKit
set_option linter.unusedSimpArgs false
set_option linter.unusedVariables false
attribute [local irreducible] Go.wpList Go.Code.wp Go.bodyPost Go.wpStill
set_option maxRecDepth 10000 in
theorem c120 (A : Nat → Prop) (l : List UInt8) (s : Value) (w0 : World) (hA : ∀ b, A b → b < w0.heap.size) (hv : RepB A w0 s l) (hl : l.length ≤ 1048576) : Fc Try.prog 120 [s] w0 (fun v w' => RepB (Fr w0 w') w' v l) := by
  obtain ⟨a, c, rfl, hcell⟩ := repB_cells hv
  refine ret_enter Try.func120 rfl Try.ntmps120 rfl ?_
  have cx := Ctx.start w0
  refine wp_seq ?_
  refine wp_region_lit ?_
  refine s_val rfl rfl (v_assign rfl rfl) ?_
  refine wpList_nil ?_
  refine wp_seq ?_
  refine wp_seq ?_
  refine wp_region_lit ?_
  refine s_val rfl rfl (v_move rfl rfl) ?_
  refine s_val rfl rfl (v_slNil rfl rfl rfl Try.underlying29) ?_
  refine wpList_nil ?_
  refine c_split rfl (fun hc4 => ?_) (fun hc4 => ?_)
  · skip
    try simp only [Bool.and_eq_true, Bool.or_eq_true, Bool.and_eq_false_iff, Bool.or_eq_false_iff, Bool.not_eq_true', Bool.not_eq_false', decide_eq_true_eq, decide_eq_false_iff_not, beq_iff_eq, beq_eq_false_iff_ne, bne_iff_ne, bne_eq_false_iff_eq, ne_eq, Classical.not_not] at hc4
    refine wp_seq ?_
    refine wp_region_lit ?_
    refine s_val rfl rfl (v_assign rfl rfl) ?_
    refine wpList_nil ?_
    refine wp_ret ?_
    refine ret_tmp Try.results120 rfl ?_
    refine ⟨cx.ext, ?_⟩
    cases a with
    | some ad => cases hc4
    | none =>
      have h0 : l.length = 0 := by
        obtain ⟨b, o, hs, _⟩ := hv
        rcases hs with ⟨h0, _⟩ | ⟨ad, cap, e, _⟩
        · exact h0
        · cases e
      have : l = [] := List.eq_nil_of_length_eq_zero h0
      subst this
      exact ⟨0, 0, .inl ⟨rfl, rfl⟩, fun j x hj => by simp at hj⟩
  · skip
    try simp only [Bool.and_eq_true, Bool.or_eq_true, Bool.and_eq_false_iff, Bool.or_eq_false_iff, Bool.not_eq_true', Bool.not_eq_false', decide_eq_true_eq, decide_eq_false_iff_not, beq_iff_eq, beq_eq_false_iff_ne, bne_iff_ne, bne_eq_false_iff_eq, ne_eq, Classical.not_not] at hc4
    cases a with
    | none => cases hc4
    | some ad => _
    have hca := hcell ad rfl
    refine wp_skip ?_
    refine wp_seq ?_
    refine wp_region_lit ?_
    refine s_bsl0 cx Try.underlying29 sz5 rfl rfl rfl ?_; intro b5 w cx hb5 hw5
    refine s_val rfl rfl (v_move rfl rfl) ?_
    replace cx := cx.toRow (k := 0) (size := 1) (cs := []) rfl (by decide)
    refine s_appendH (m := l.length) (news := l.map byteVal) cx ei5 Try.underlying29 rfl rfl rfl rfl rfl (fun j u hu => ?_) (by simp) ?_ (by omega) ?_
    · rw [World.cell?_of_block (w := w0) (a := ad.add j) ((cx.ext).block _ (by have := block_lt_of_cell (hca j u hu); simpa [Addr.add] using this))]; exact hca j u hu
    · simp [List.all_eq_true, byteVal, Value.oneCell']
    intro v7 w cx hgr7 hnw7
    refine s_val rfl rfl (v_assign rfl rfl) ?_
    refine wpList_nil ?_
    refine wp_ret ?_
    refine ret_tmp Try.results120 rfl ?_
    refine ⟨cx.ext, ?_⟩
    refine RepB.mono (fun b hb => ?_) (fun _ _ => rfl) (byt_of_row cx.head (by simp))
    exact Made_lt cx.head b hb

set_option maxRecDepth 10000 in
theorem c88 : ∀ (k : Nat) (v : V) (r : List Value) (dd : Int) (w0 : World), deep k v → (k : Int) ≤ dd → dd ≤ 1000000 → Val w0 v r → Fine v → Fc Try.prog 88 [.agg r.toArray, .int .i64 dd] w0 (fun x w' => Made w0 w' v x) := by
  intro k
  induction k with
  | zero => intro v r dd w0 hd; exact hd.elim
  | succ k ih =>
  intro v r dd w0 hd hdd hdm hv hfin
  have hself := hfin.self
  obtain ⟨bs, ls, fs, rfl, hbs, hls, hfs⟩ := hv.open
  obtain ⟨la, lc, lb, lo, rfl, hla, hlget⟩ := hls.open
  obtain ⟨fa, fc, fb, fo, rfl, hfa, hfget⟩ := hfs.open
  refine ret_enter Try.func88 rfl Try.ntmps88 rfl ?_
  have cx := Ctx.start w0
  refine wp_seq ?_
  refine wp_region_lit ?_
  refine s_box cx rfl rfl rfl rfl rfl ?_; intro b2 w cx hb2 hw2
  refine s_alloc cx z33 rfl rfl rfl ?_; intro b4 w cx hb4 hw4
  refine wpList_nil ?_
  refine wp_seq ?_
  refine wp_region_lit ?_
  refine s_val rfl rfl (v_fa fa33_5 rfl rfl) ?_
  refine s_val rfl rfl (v_load1 rfl rfl Try.underlying29 rfl (cx.cell 1 rfl rfl)) ?_
  have cxo := cx
  refine s_fn cx (c120 (fun b => b < w0.heap.size) v.bytes bs _ (fun b hb => Nat.lt_of_lt_of_le hb cx.ext.size) (RepB.mono (fun _ h => h) (fun b hb => cx.ext.block b hb) hbs) hfin.self.2.2.1) Try.func120 rfl rfl rfl rfl rfl rfl ?_; intro q13 w cx hw13 hp13
  have hp13' := hp13.form
  have hq13 : q13.oneCell' = true := by obtain ⟨_, _, _, _, rfl, _⟩ := hp13'; rfl
  have hK := Kp.dn w0 w [b2, b4] (.slice none 0 0)
  have hB0 := RepB.mono (Dn.new (w0 := w0) (ids := [b2, b4]) (v := .slice none 0 0) (v' := .slice none 0 0) cxo.ext.size (Nat.le_refl _) (fun i hi => (cxo.lts i (by rcases (by simpa using hi : i = b2 ∨ i = b4) with rfl | rfl <;> simp)).2) (by simp [Value.ownBlock]) (Nat.le_refl _) (by simp [Value.ownBlock])) (fun _ _ => rfl) hp13
  refine s_val rfl rfl (v_fa fa33_5 rfl rfl) ?_
  refine s_store1G cx 1 rfl rfl rfl rfl rfl hq13 rfl rfl rfl ?_; intro w cx hg14
  replace hK := hK.dnId hg14 (by simp)
  refine wpList_nil ?_
  refine wp_seq ?_
  refine wp_seq ?_
  refine wp_region_lit ?_
  refine s_val rfl rfl (v_move rfl rfl) ?_
  refine s_val rfl rfl (v_cmp rfl rfl rfl rfl) ?_
  refine wpList_nil ?_
  refine c_split rfl (fun hc16 => ?_) (fun hc16 => ?_)
  · skip
    try simp only [Bool.and_eq_true, Bool.or_eq_true, Bool.and_eq_false_iff, Bool.or_eq_false_iff, Bool.not_eq_true', Bool.not_eq_false', decide_eq_true_eq, decide_eq_false_iff_not, beq_iff_eq, beq_eq_false_iff_ne, bne_iff_ne, bne_eq_false_iff_eq, ne_eq, Classical.not_not] at hc16
    exfalso
    omega
  · skip
    try simp only [Bool.and_eq_true, Bool.or_eq_true, Bool.and_eq_false_iff, Bool.or_eq_false_iff, Bool.not_eq_true', Bool.not_eq_false', decide_eq_true_eq, decide_eq_false_iff_not, beq_iff_eq, beq_eq_false_iff_ne, bne_iff_ne, bne_eq_false_iff_eq, ne_eq, Classical.not_not] at hc16
    refine wp_skip ?_
    refine wp_seq ?_
    refine wp_region_lit ?_
    refine s_val rfl rfl (v_assign rfl rfl) ?_
    refine wpList_nil ?_
    refine wp_seq ?_
    refine wp_seq ?_
    refine wp_region_lit ?_
    replace cx := cx.nilRow 33 13
    refine s_val rfl rfl (v_fa fa33_6 rfl rfl) ?_
    refine s_val rfl rfl (v_load1 rfl rfl Try.underlying30 rfl (cx.cell 1 rfl rfl)) ?_
    refine s_val rfl rfl (v_lenSlice rfl rfl Try.underlying30) ?_
    refine s_val rfl rfl (v_move rfl rfl) ?_
    refine wpList_nil ?_
    refine wp_block ?_
    refine w_loop (fun k f w1 => ∃ (i : Nat) (x : Value) (rs : List (List Value)), k + i = v.list.length ∧ f 1 = .int .i64 dd ∧ f 2 = .pointer (some ⟨b2, 0, none⟩) ∧ f 4 = .pointer (some ⟨b4, 0, none⟩) ∧ f 21 = .slice la v.list.length lc ∧ f 22 = .int .i64 v.list.length ∧ f 23 = .int .i64 i ∧ f 5 = x ∧ Cxr w0 w1 [(b4, .cells ([.int .i64 0, .bool false, .bool false, .string ByteArray.empty, .int .i64 0, .int .i64 0, .int .i64 0, .int .i64 0, .int .i64 0, .string ByteArray.empty, .slice none 0 0, .slice none 0 0, .slice none 0 0] : List Value).toArray 33), (b2, .cells (vrow v.sc q13 (.slice la v.list.length lc) (.slice fa v.fields.length fc)).toArray 33)] [⟨33, 13, x, i, rs.flatten⟩] ∧ RepB (Dn w0 w1 [b2, b4] x) w1 q13 v.bytes ∧ RowsV (Dn w0 w1 [b2, b4] x) w1 (v.list.take i) rs) (v.list.length) ?_ ?_
    · skip
      exact ⟨0, _, [], by omega, rfl, rfl, rfl, rfl, rfl, rfl, rfl, cx, RepB.mono (fun b hb => ⟨⟨hb.1.1, Nat.lt_of_lt_of_le hb.1.2 hK.sz⟩, hb.2⟩) hK.kp hB0, trivial⟩
    intro gk7 f w hJ
    obtain ⟨i, x, rs, hk, hs1, hs2, hs4, hs21, hs22, hs23, hs5, cx, hB, hrows⟩ := hJ
    have hK := Kp.dn w0 w [b2, b4] x
    refine wp_seq ?_
    refine wp_region_lit ?_
    refine s_val rfl rfl (v_cmp rfl hs23 hs22 rfl) ?_
    refine wpList_nil ?_
    refine wp_seq ?_
    refine c_split rfl (fun hc24 => ?_) (fun hc24 => ?_)
    · skip
      try simp only [Bool.and_eq_true, Bool.or_eq_true, Bool.and_eq_false_iff, Bool.or_eq_false_iff, Bool.not_eq_true', Bool.not_eq_false', decide_eq_true_eq, decide_eq_false_iff_not, beq_iff_eq, beq_eq_false_iff_ne, bne_iff_ne, bne_eq_false_iff_eq, ne_eq, Classical.not_not] at hc24
      obtain rfl := hla (by omega)
      obtain ⟨r, hr, hrv⟩ := hlget i v.list[i] (List.getElem?_eq_getElem (by omega))
      refine wp_skip ?_
      refine wp_seq ?_
      refine wp_block ?_
      refine wp_seq ?_
      refine wp_region_lit ?_
      refine s_val rfl rfl (v_ia Try.underlying30 sz33 rfl hs21 hs23 (by omega) (by omega)) ?_
      refine s_val rfl rfl (v_load rfl rfl Try.underlying33 rfl sz33 (hr.up cx.ext) (hrv.len)) ?_
      refine s_alloc cx z33 rfl rfl rfl ?_; intro b7 w cx hb7 hw7
      have hl7 := Nat.le_trans hK.sz (Nat.le_of_eq hb7)
      replace hK := hK.below hw7
      refine s_storeAllG cx 0 rfl rfl rfl rfl rfl rfl (by rw [hrv.len]; exact sz33) (by rw [hrv.len]; rfl) hrv.oneCell ?_; intro w cx hg7
      replace hK := hK.later hg7 hl7
      refine wpList_nil ?_
      refine wp_region_lit ?_
      refine s_val rfl rfl (v_move rfl hs5) ?_
      refine s_val rfl rfl (v_load rfl rfl Try.underlying33 rfl sz33 (cx.row 0 rfl) hrv.len) ?_
      refine s_val rfl rfl (v_move rfl hs1) ?_
      refine s_val rfl rfl (v_sub rfl rfl rfl (by omega) (by omega)) ?_
      have cxc := cx
      refine s_fn cx (ih _ r _ _ (hd.1 _ (List.getElem_mem _)) (by omega) (by omega) (hrv.up cx.ext) (hfin.elem (List.getElem_mem _))) Try.func88 rfl rfl rfl rfl rfl rfl ?_; intro q31 w cx hw31 hp31
      obtain ⟨r31, rfl, hm31⟩ := hp31.rep
      replace hK := hK.below hw31
      have hKn := Kp.fr hw31
      refine s_bsl1 cx Try.underlying30 sz33 z33 rfl rfl rfl rfl rfl rfl rfl hm31.len ?_; intro b32 w cx hb32 hw32
      replace hK := hK.below hw32
      replace hKn := hKn.below hw32
      have hm0 := hK.sz
      have hm1 := hKn.sz
      refine s_appendG (m := 1) cx ei33 Try.underlying30 rfl rfl rfl rfl rfl (cx.row 0 rfl) hm31.len hm31.one (by omega) ?_; intro v33 w cx hgr33 hnw33
      replace hK := hK.dnOwn hgr33
      replace hKn := hKn.frOwn hgr33 (fun q hq => (Made_lt cxc.head q hq).2)
      refine s_val rfl rfl (v_assign rfl rfl) ?_
      refine wpList_nil ?_
      refine wp_region_lit ?_
      refine s_val rfl rfl (v_add rfl hs23 rfl (by omega) (by omega)) ?_
      refine s_val rfl rfl (v_move rfl rfl) ?_
      refine wpList_nil ?_
      have hst := Dn.step (w0 := w0) (ids := [b2, b4]) hK.sz hm0 hnw33
      have hnd := Dn.new (w0 := w0) (ids := [b2, b4]) cxc.ext.size hKn.sz (fun i hi => (cxc.lts i (by rcases (by simpa using hi : i = b2 ∨ i = b4) with rfl | rfl <;> simp)).2) (fun q hq => (Made_lt cxc.head q hq).2) hm1 hnw33
      refine ⟨gk7 - 1, _, by omega, rfl, i + 1, v33, rs ++ [r31], by omega, hs1, hs2, hs4, hs21, hs22, rfl, rfl, by simpa using cx.drop 2, RepB.mono hst hK.kp hB, ?_⟩
      rw [List.take_succ_eq_append_getElem (by omega)]
      exact RowsV.snoc _ _ (RowsV.mono hst hK.kp _ _ hrows) (RepV.mono hnd hKn.kp _ _ hm31)
    · skip
      try simp only [Bool.and_eq_true, Bool.or_eq_true, Bool.and_eq_false_iff, Bool.or_eq_false_iff, Bool.not_eq_true', Bool.not_eq_false', decide_eq_true_eq, decide_eq_false_iff_not, beq_iff_eq, beq_eq_false_iff_ne, bne_iff_ne, bne_eq_false_iff_eq, ne_eq, Classical.not_not] at hc24
      refine wp_exit ?_
      refine wp_seq ?_
      refine wp_region_lit ?_
      have hi : i = v.list.length := by omega
      subst hi
      rw [List.take_of_length_le (Nat.le_refl _)] at hrows
      have hL0 := RepL.mono (Dn.join (ids := [b2, b4]) cx (by intro i hi; rcases (by simpa using hi : i = b2 ∨ i = b4) with rfl | rfl <;> simp)) (fun _ _ => rfl) (lstA_of_row cx.head rfl hrows (fun _ _ => rfl))
      replace hB := RepB.mono Dn.nil (fun _ _ => rfl) hB
      obtain ⟨x5, hx5⟩ : ∃ x5, x5 = x := ⟨_, rfl⟩
      subst hx5
      replace cx := (cx.dropR 1).nilRow 77 14
      refine s_val rfl rfl (v_assign rfl rfl) ?_
      refine wpList_nil ?_
      refine wp_seq ?_
      refine wp_seq ?_
      refine wp_region_lit ?_
      refine s_val rfl rfl (v_fa fa33_7 rfl hs2) ?_
      refine s_val rfl rfl (v_load1 rfl rfl Try.underlying31 rfl (cx.cell 1 rfl rfl)) ?_
      refine s_val rfl rfl (v_lenSlice rfl rfl Try.underlying31) ?_
      refine s_val rfl rfl (v_move rfl rfl) ?_
      refine wpList_nil ?_
      refine wp_block ?_
      refine w_loop (fun k f w1 => ∃ (i : Nat) (x : Value) (rs : List (List Value)), k + i = v.fields.length ∧ f 1 = .int .i64 dd ∧ f 2 = .pointer (some ⟨b2, 0, none⟩) ∧ f 4 = .pointer (some ⟨b4, 0, none⟩) ∧ f 36 = .slice fa v.fields.length fc ∧ f 37 = .int .i64 v.fields.length ∧ f 38 = .int .i64 i ∧ f 5 = x5 ∧ f 8 = x ∧ Cxr w0 w1 [(b4, .cells ([.int .i64 0, .bool false, .bool false, .string ByteArray.empty, .int .i64 0, .int .i64 0, .int .i64 0, .int .i64 0, .int .i64 0, .string ByteArray.empty, .slice none 0 0, .slice none 0 0, .slice none 0 0] : List Value).toArray 33), (b2, .cells (vrow v.sc q13 (.slice la v.list.length lc) (.slice fa v.fields.length fc)).toArray 33)] [⟨77, 14, x, i, rs.flatten⟩] ∧ RepB (Dn w0 w1 [b2, b4] x) w1 q13 v.bytes ∧ RepL (Dn w0 w1 [b2, b4] x) w1 x5 v.list ∧ RowsF (Dn w0 w1 [b2, b4] x) w1 (v.fields.take i) rs) (v.fields.length) ?_ ?_
      · skip
        exact ⟨0, _, [], by omega, hs1, hs2, hs4, rfl, rfl, rfl, hs5, rfl, cx, hB, hL0, trivial⟩
      intro gk13 f w hJ
      obtain ⟨i, x, rs, hk, hs1, hs2, hs4, hs36, hs37, hs38, hs5, hs8, cx, hB, hL, hrows⟩ := hJ
      have hK := Kp.dn w0 w [b2, b4] x
      refine wp_seq ?_
      refine wp_region_lit ?_
      refine s_val rfl rfl (v_cmp rfl hs38 hs37 rfl) ?_
      refine wpList_nil ?_
      refine wp_seq ?_
      refine c_split rfl (fun hc39 => ?_) (fun hc39 => ?_)
      · skip
        try simp only [Bool.and_eq_true, Bool.or_eq_true, Bool.and_eq_false_iff, Bool.or_eq_false_iff, Bool.not_eq_true', Bool.not_eq_false', decide_eq_true_eq, decide_eq_false_iff_not, beq_iff_eq, beq_eq_false_iff_ne, bne_iff_ne, bne_eq_false_iff_eq, ne_eq, Classical.not_not] at hc39
        obtain rfl := hfa (by omega)
        obtain ⟨r, hr, hrv⟩ := hfget i v.fields[i] (List.getElem?_eq_getElem (by omega))
        obtain ⟨ebs, els, efs, rfl, _⟩ := hrv.open
        refine wp_skip ?_
        refine wp_seq ?_
        refine wp_block ?_
        refine wp_seq ?_
        refine wp_region_lit ?_
        refine s_val rfl rfl (v_ia Try.underlying31 sz77 rfl hs36 hs38 (by omega) (by omega)) ?_
        refine s_val rfl rfl (v_load rfl rfl Try.underlying77 rfl sz77 (hr.up cx.ext) rfl) ?_
        refine s_alloc cx z77 rfl rfl rfl ?_; intro b10 w cx hb10 hw10
        have hl10 := Nat.le_trans hK.sz (Nat.le_of_eq hb10)
        replace hK := hK.below hw10
        refine s_storeAllG cx 0 rfl rfl rfl rfl rfl rfl sz77 rfl (by exact hrv.oneCell) ?_; intro w cx hg10
        replace hK := hK.later hg10 hl10
        refine wpList_nil ?_
        refine w_ord cx (cx.pick1 0 rfl) mixed [(0, 42), (1, 43), (2, 44), (3, 45), (4, 46), (5, 47), (6, 48)] #[true, true, true, true, true, true, true, false, false, false, false, false] (by kernel_rfl) (by kernel_rfl) (by kernel_rfl) (by kernel_rfl) ?_
        refine pu_one rfl (wnt_none rfl) (fun w cx => v_move rfl hs8) ?_
        refine pu_one rfl (wnt_none rfl) (fun w cx => v_fa fa77_0 rfl rfl) ?_
        refine pu_one rfl (wnt_none rfl) (fun w cx => v_load1 rfl rfl Try.underlying9 rfl (cx.cell 0 rfl rfl)) ?_
        refine pu_one rfl (wnt_none rfl) (fun w cx => v_fa fa77_1 rfl rfl) ?_
        refine pu_one rfl (wnt_none rfl) (fun w cx => v_load rfl rfl Try.underlying33 rfl sz33 ((cx.row 0 rfl).rv 1 rfl) rfl) ?_
        refine pu_one rfl (wnt_none rfl) (fun w cx => v_move rfl hs1) ?_
        refine pu_one rfl (wnt_none rfl) (fun w cx => v_sub rfl rfl rfl (by omega) (by omega)) ?_
        refine pu_nil ?_; intro w cx hwD15
        replace hK := hK.below hwD15
        refine x_one (i := 7) (by kernel_rfl) rfl ?_
        have cxc := cx
        refine s_fn cx (ih _ _ _ _ (hd.2 _ (List.getElem_mem _)) (by omega) (by omega) (hrv.up cx.ext) (hfin.field (List.getElem_mem _)).2) Try.func88 rfl rfl rfl rfl rfl rfl ?_; intro q49 w cx hw49 hp49
        obtain ⟨r49, rfl, hm49⟩ := hp49.rep
        replace hK := hK.below hw49
        have hKn := Kp.fr hw49
        obtain ⟨nbs, nls, nfs, rfl, _⟩ := hm49.open
        refine x_next ⟨.inl (cx.pick1 0 rfl), ?_⟩
        refine x_one (i := 8) (by kernel_rfl) rfl ?_
        refine s_val rfl rfl (v_build (bd77 _ _ _ _ _) rfl rfl) ?_
        refine x_next ⟨.inl (cx.pick1 0 rfl), ?_⟩
        refine x_one (i := 9) (by kernel_rfl) rfl ?_
        refine s_bsl1 cx Try.underlying31 sz77 z77 rfl rfl rfl rfl rfl rfl rfl rfl ?_; intro b51 w cx hb51 hw51
        replace hK := hK.below hw51
        replace hKn := hKn.below hw51
        have hm0 := hK.sz
        have hm1 := hKn.sz
        refine x_next ⟨.inl (cx.pick1 1 rfl), ?_⟩
        refine x_one (i := 10) (by kernel_rfl) rfl ?_
        refine s_appendG (m := 1) cx ei77 Try.underlying31 rfl rfl rfl rfl rfl (cx.row 0 rfl) rfl (by exact hm49.one) (by omega) ?_; intro v52 w cx hgr52 hnw52
        replace hK := hK.dnOwn hgr52
        replace hKn := hKn.frOwn hgr52 (fun q hq => (Made_lt cxc.head q hq).2)
        refine x_next ⟨.inr (by kernel_rfl), ?_⟩
        refine x_one (i := 11) (by kernel_rfl) rfl ?_
        refine s_val rfl rfl (v_assign rfl rfl) ?_
        refine x_next ⟨.inr (by kernel_rfl), ?_⟩
        refine x_done (by kernel_rfl) ?_
        refine wp_region_lit ?_
        refine s_val rfl rfl (v_add rfl hs38 rfl (by omega) (by omega)) ?_
        refine s_val rfl rfl (v_move rfl rfl) ?_
        refine wpList_nil ?_
        have hst := Dn.step (w0 := w0) (ids := [b2, b4]) hK.sz hm0 hnw52
        have hnd := Dn.new (w0 := w0) (ids := [b2, b4]) cxc.ext.size hKn.sz (fun i hi => (cxc.lts i (by rcases (by simpa using hi : i = b2 ∨ i = b4) with rfl | rfl <;> simp)).2) (fun q hq => (Made_lt cxc.head q hq).2) hm1 hnw52
        refine ⟨gk13 - 1, _, by omega, rfl, i + 1, v52, rs ++ [.string v.fields[i].1 :: vrow v.fields[i].2.sc nbs nls nfs], by omega, hs1, hs2, hs4, hs36, hs37, rfl, hs5, rfl, by simpa using cx.drop 2, RepB.mono hst hK.kp hB, RepL.mono hst hK.kp hL, ?_⟩
        rw [List.take_succ_eq_append_getElem (by omega)]
        exact RowsF.snoc _ _ (RowsF.mono hst hK.kp _ _ hrows) (RepV.mono hnd hKn.kp _ _ hm49)
      · skip
        try simp only [Bool.and_eq_true, Bool.or_eq_true, Bool.and_eq_false_iff, Bool.or_eq_false_iff, Bool.not_eq_true', Bool.not_eq_false', decide_eq_true_eq, decide_eq_false_iff_not, beq_iff_eq, beq_eq_false_iff_ne, bne_iff_ne, bne_eq_false_iff_eq, ne_eq, Classical.not_not] at hc39
        refine wp_exit ?_
        refine wp_seq ?_
        refine wp_region_lit ?_
        have hi : i = v.fields.length := by omega
        subst hi
        rw [List.take_of_length_le (Nat.le_refl _)] at hrows
        have hK := Kp.dn w0 w [b2, b4] x
        refine s_val rfl rfl (v_move rfl hs5) ?_
        refine s_val rfl rfl (v_move rfl hs8) ?_
        refine s_val rfl rfl (v_fa fa33_6 rfl hs2) ?_
        refine s_store1G cx 1 rfl rfl rfl rfl rfl hL.one rfl rfl rfl ?_; intro w cx hg56
        replace hK := hK.dnId hg56 (by simp)
        refine s_val rfl rfl (v_fa fa33_7 rfl hs2) ?_
        refine s_store1G cx 1 rfl rfl rfl rfl rfl (own_one cx.head) rfl rfl rfl ?_; intro w cx hg57
        replace hK := hK.dnId hg57 (by simp)
        refine wpList_nil ?_
        refine wp_seq ?_
        refine wp_region_lit ?_
        refine s_val rfl rfl (v_load rfl hs2 Try.underlying33 rfl sz33 (l := vrow v.sc q13 x5 x) (cx.row 1 rfl) rfl) ?_
        refine s_storeAllG cx 0 rfl rfl rfl hs4 rfl rfl sz33 rfl (vrow_one hq13 hL.one (own_one cx.head)) ?_; intro w cx hg58
        replace hK := hK.dnId hg58 (by simp)
        refine wpList_nil ?_
        refine wp_ret ?_
        refine ret_cell Try.results88 hs4 (cx.at 0 rfl) Try.underlying33 rfl sz33 ⟨cx.ext, q13, x5, x, rs, rfl, ?_, ?_, cx.head, ?_⟩
        · exact RepB.mono (fun b hb => ⟨hb.1.1, Nat.lt_of_lt_of_le hb.1.2 hK.sz⟩) hK.kp hB
        · exact RepL.mono (fun b hb => ⟨hb.1.1, Nat.lt_of_lt_of_le hb.1.2 hK.sz⟩) hK.kp hL
        · exact RowsF.mono (fun b hb => ⟨⟨hb.1.1, Nat.lt_of_lt_of_le hb.1.2 hK.sz⟩, hb.2.2⟩) hK.kp _ _ hrows
end Go.Proofs.Ytmkihcdcgkdilaa
