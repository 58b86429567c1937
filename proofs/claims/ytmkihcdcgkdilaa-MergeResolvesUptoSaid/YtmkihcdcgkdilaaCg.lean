/-
  Contract: overlay of the program.
-/
import Derived.Test.YtmkihcdcgkdilaaCf
import Derived.Test.YtmkihcdcgkdilaaVi
namespace Go.Proofs.Ytmkihcdcgkdilaa
open Go Go.Dk Go.RowKit
set_option linter.unusedSimpArgs false
set_option linter.unusedVariables false
attribute [local irreducible] Go.wpList Go.Code.wp Go.bodyPost Go.wpStill
set_option maxRecDepth 10000 in
set_option maxHeartbeats 3200000 in
theorem c50 : ∀ (e mb mo : Nat) (bv ov : V) (x : Value) (r : List Value) (w0 : World), Gd e mb bv → Gd e mo ov → e ≤ 48 → mb + mo ≤ 1000000 → Ptr w0 x bv → Val w0 ov r → Fc Try.prog 50 [x, .agg r.toArray] w0 (fun y w' => Made w0 w' (ovl e bv ov) y) := by
  intro e
  induction e with
  | zero => intro mb mo bv ov x r w0 hgb; exact hgb.ok.elim
  | succ e ih =>
  intro mb mo bv ov x r w0 hgb hgo he hm hp hv
  have hl0 : (if bv.sc.kind = 7 then bv.fields else []).length ≤ mb := by
    split
    · exact (hgb.nw 1).1
    · simp
  have h0good : ∀ kv ∈ (if bv.sc.kind = 7 then bv.fields else []), GdF e mb kv := by
    intro kv hk
    split at hk
    · exact hgb.field hk
    · cases hk
  obtain ⟨obs, ols, ofs, rfl, hobs, hols, hofs⟩ := hv.open
  obtain ⟨fa, fc, fb, fo, rfl, hfa, hfget⟩ := hofs.open
  obtain ⟨pa, b0, bbs, bls, bfs, rfl, hpa, hpn⟩ := hp
  refine ret_enter Try.func50 rfl Try.ntmps50 rfl ?_
  have cx := Ctx.start w0
  refine wp_seq ?_
  refine wp_region_lit ?_
  refine s_box cx rfl rfl rfl rfl rfl ?_; intro b3 w cx hb3 hw3
  refine s_alloc cx z33 rfl rfl rfl ?_; intro b4 w cx hb4 hw4
  refine wpList_nil ?_
  refine wp_seq ?_
  refine wp_seq ?_
  refine wp_region_lit ?_
  refine s_val rfl rfl (v_fa fa33_0 rfl rfl) ?_
  refine s_val rfl rfl (v_load1 rfl rfl Try.underlying3 rfl (cx.cell 1 rfl rfl)) ?_
  refine s_val rfl rfl (v_cmp rfl rfl rfl rfl) ?_
  refine wpList_nil ?_
  refine c_split rfl (fun hc13 => ?_) (fun hc13 => ?_)
  · skip
    try simp only [Bool.and_eq_true, Bool.or_eq_true, Bool.and_eq_false_iff, Bool.or_eq_false_iff, Bool.not_eq_true', Bool.not_eq_false', decide_eq_true_eq, decide_eq_false_iff_not, beq_iff_eq, beq_eq_false_iff_ne, bne_iff_ne, bne_eq_false_iff_eq, ne_eq, Classical.not_not] at hc13
    refine wp_seq ?_
    refine wp_region_lit ?_
    refine s_val rfl rfl (v_load rfl rfl Try.underlying33 rfl sz33 (cx.row 1 rfl) rfl) ?_
    have cxc := cx
    refine s_fn cx (c60 (e + 1) ov _ _ (deep_of_okd _ _ hgo.ok) (by omega) (hv.up cx.ext) hgo.fine) Try.func60 rfl rfl rfl rfl rfl rfl ?_; intro q15 w cx hw15 hp15
    have hKn := Kp.fr hw15
    obtain ⟨r15, rfl, hm⟩ := hp15.rep
    refine s_storeAllG cx 0 rfl rfl rfl rfl rfl rfl (by rw [hm.len]; exact sz33) (by rw [hm.len]; rfl) hm.one ?_; intro w cx hg4
    replace hKn := hKn.grown hg4 (fun b hb e => by have h1 := (cxc.lts b4 (by simp)).2; have h2 := hb.1; simp at e; omega)
    refine wpList_nil ?_
    refine wp_ret ?_
    refine ret_cell Try.results50 rfl (cx.at 0 rfl) Try.underlying33 rfl (by rw [hm.len]; exact sz33) ⟨cx.ext, ?_⟩
    rw [ovl_else hc13]
    exact hp15.up cxc.ext.size hKn
  · skip
    try simp only [Bool.and_eq_true, Bool.or_eq_true, Bool.and_eq_false_iff, Bool.or_eq_false_iff, Bool.not_eq_true', Bool.not_eq_false', decide_eq_true_eq, decide_eq_false_iff_not, beq_iff_eq, beq_eq_false_iff_ne, bne_iff_ne, bne_eq_false_iff_eq, ne_eq, Classical.not_not] at hc13
    have h7 : ov.sc.kind = 7 := hc13
    refine wp_skip ?_
    refine wp_seq ?_
    refine wp_region_lit ?_
    refine s_val rfl rfl (v_build bd33m rfl rfl) ?_
    refine s_alloc cx z33 rfl rfl rfl ?_; intro b5 w cx hb5 hw5
    refine s_storeAllG cx 0 rfl rfl rfl rfl rfl rfl sz33 rfl rfl ?_; intro w cx hg5
    refine wpList_nil ?_
    refine w_cut (fun f w1 => ∃ (bs ls fs : Value) (rs : List (List Value)), f 3 = .pointer (some ⟨b3, 0, none⟩) ∧ f 4 = .pointer (some ⟨b4, 0, none⟩) ∧ f 5 = .pointer (some ⟨b5, 0, none⟩) ∧ (∀ A w, RepB A w bs []) ∧ (∀ A w, RepL A w ls []) ∧ Cxr w0 w1 [(b5, .cells (vrow (zk 7) bs ls fs).toArray 33), (b4, .cells ([.int .i64 0, .bool false, .bool false, .string ByteArray.empty, .int .i64 0, .int .i64 0, .int .i64 0, .int .i64 0, .int .i64 0, .string ByteArray.empty, .slice none 0 0, .slice none 0 0, .slice none 0 0] : List Value).toArray 33), (b3, .cells (vrow ov.sc obs ols (.slice fa ov.fields.length fc)).toArray 33)] [⟨77, 14, fs, (if bv.sc.kind = 7 then bv.fields else []).length, rs.flatten⟩] ∧ RowsF (Dn w0 w1 [b3, b4, b5] fs) w1 (if bv.sc.kind = 7 then bv.fields else []) rs) ?_ ?_
    · skip
      refine wp_seq ?_
      refine wp_region_lit ?_
      refine s_val rfl rfl (v_move rfl rfl) ?_
      refine s_val rfl rfl (v_ptrNe rfl rfl rfl Try.underlying75) ?_
      refine s_val rfl rfl (v_move rfl rfl) ?_
      refine s_gval rfl rfl rfl (by first | exact w_tt rfl | exact w_gt rfl) (fun hc => v_move rfl (by first | exact gve hc rfl | exact gve (and_l hc) rfl | exact gve (and_l (and_l hc)) rfl | rfl)) ?_
      refine s_gval rfl rfl rfl (by first | exact w_tt rfl | exact w_gt rfl) (fun hc => v_nilCk (a := ⟨b0, 0, none⟩) rfl ((gve hc rfl).trans (congrArg Value.pointer (hpa hc).1))) ?_
      refine s_gval rfl rfl rfl (by first | exact w_tt rfl | exact w_gt rfl) (fun hc => v_fa fa33_0 rfl (gve hc rfl)) ?_
      refine s_gval rfl rfl rfl (by first | exact w_tt rfl | exact w_gt rfl) (fun hc => v_load1 rfl (gve hc rfl) Try.underlying3 rfl (((hpa hc).2.1.up cx.ext).cell 0 rfl)) ?_
      refine s_gval rfl rfl rfl (by first | exact w_tt rfl | exact w_gt rfl) (fun hc => v_cmp rfl (by first | exact gve hc rfl | exact gve (and_l hc) rfl | exact gve (and_l (and_l hc)) rfl | rfl) rfl rfl) ?_
      refine s_val rfl rfl (v_and rfl rfl rfl rfl) ?_
      refine wpList_nil ?_
      refine c_split rfl (fun hc25 => ?_) (fun hc25 => ?_)
      · skip
        try simp only [Bool.and_eq_true, Bool.or_eq_true, Bool.and_eq_false_iff, Bool.or_eq_false_iff, Bool.not_eq_true', Bool.not_eq_false', decide_eq_true_eq, decide_eq_false_iff_not, beq_iff_eq, beq_eq_false_iff_ne, bne_iff_ne, bne_eq_false_iff_eq, ne_eq, Classical.not_not] at hc25
        refine wp_region_lit ?_
        refine s_val rfl rfl (v_move rfl rfl) ?_
        refine s_val rfl rfl (v_nilCk (a := ⟨b0, 0, none⟩) rfl (congrArg Value.pointer (hpa hc25.1).1)) ?_
        refine s_val rfl rfl (v_load rfl rfl Try.underlying33 rfl sz33 ((hpa hc25.1).2.1.up cx.ext) rfl) ?_
        have cxc := cx
        refine s_fn cx (c60 (e + 1) bv _ _ (deep_of_okd _ _ hgb.ok) (by omega) ((hpa hc25.1).2.2.up cx.ext) hgb.fine) Try.func60 rfl rfl rfl rfl rfl rfl ?_; intro q29 w cx hw29 hp29
        obtain ⟨bs, ls, fs, rs, hq29, hB, hL, hro, hrs⟩ := hp29
        have hbv := own7 hgb.ok.1 hc25.2
        have hbn : bv.bytes = [] := by rw [hbv]; rfl
        have hln : bv.list = [] := by rw [hbv]; rfl
        have hsc : bv.sc = zk 7 := by rw [hbv]; rfl
        have h0 : (if bv.sc.kind = 7 then bv.fields else []) = bv.fields := if_pos hc25.2
        rw [hbn] at hB
        rw [hln] at hL
        rw [hsc] at hq29
        subst hq29
        replace cx := cxc.callRow hw29 hro
        have hK := Kp.dn w0 w [b3, b4, b5] fs
        have hrs1 : RowsF (Dn w0 w [b3, b4, b5] fs) w bv.fields rs := RowsF.mono (fun b hb => ⟨⟨Nat.le_trans cxc.ext.size hb.1.1, hb.1.2⟩, fun hm => by
          have h1 := (cxc.lts b (by rcases (by simpa using hm : b = b3 ∨ b = b4 ∨ b = b5) with rfl | rfl | rfl <;> simp)).2
          have h2 := hb.1.1
          omega, hb.2⟩) (fun _ _ => rfl) _ _ hrs
        refine s_storeAllG cx 0 rfl rfl rfl rfl rfl rfl sz33 rfl (vrow_one hB.one hL.one (own_one hro)) ?_; intro w cx hg5b
        replace hK := hK.dnId hg5b (by simp)
        have hE := RowsF.mono (A' := Dn w0 w [b3, b4, b5] fs) (fun b hb => ⟨⟨hb.1.1, Nat.lt_of_lt_of_le hb.1.2 hK.sz⟩, hb.2⟩) hK.kp _ _ hrs1
        refine wpList_nil ?_
        first
        | exact ⟨_, rfl, bs, ls, fs, rs, rfl, rfl, rfl, repB_any hB, repL_any hL, by rw [h0]; exact cx, by rw [h0]; exact hE⟩
        | exact ⟨_, rfl, .slice none 0 0, .slice none 0 0, .slice none 0 0, [], rfl, rfl, rfl, fun _ _ => repB_nil, fun _ _ => repL_nil, by rw [h0]; exact cx.nilRow 77 14, by rw [h0]; trivial⟩
      · skip
        try simp only [Bool.and_eq_true, Bool.or_eq_true, Bool.and_eq_false_iff, Bool.or_eq_false_iff, Bool.not_eq_true', Bool.not_eq_false', decide_eq_true_eq, decide_eq_false_iff_not, beq_iff_eq, beq_eq_false_iff_ne, bne_iff_ne, bne_eq_false_iff_eq, ne_eq, Classical.not_not] at hc25
        have h0 : (if bv.sc.kind = 7 then bv.fields else []) = [] := by
          refine if_neg ?_
          rcases hc25 with h | h
          · rw [hpn h]; decide
          · exact h
        refine wp_skip ?_
        first
        | exact ⟨_, rfl, bs, ls, fs, rs, rfl, rfl, rfl, repB_any hB, repL_any hL, by rw [h0]; exact cx, by rw [h0]; exact hE⟩
        | exact ⟨_, rfl, .slice none 0 0, .slice none 0 0, .slice none 0 0, [], rfl, rfl, rfl, fun _ _ => repB_nil, fun _ _ => repL_nil, by rw [h0]; exact cx.nilRow 77 14, by rw [h0]; trivial⟩
    intro f w hJ
    obtain ⟨bs, ls, fs, rs, hs3, hs4, hs5, hbA, hlA, cx, hrows⟩ := hJ
    refine wp_seq ?_
    refine wp_seq ?_
    refine wp_region_lit ?_
    refine s_val rfl rfl (v_fa fa33_7 rfl hs3) ?_
    refine s_val rfl rfl (v_load1 rfl rfl Try.underlying31 rfl (cx.cell 2 rfl rfl)) ?_
    refine s_val rfl rfl (v_lenSlice rfl rfl Try.underlying31) ?_
    refine s_val rfl rfl (v_move rfl rfl) ?_
    refine wpList_nil ?_
    refine wp_block ?_
    refine w_loop (fun k f w1 => ∃ (i : Nat) (l : List (ByteArray × V)) (v : Value) (rs : List (List Value)), k + i = ov.fields.length ∧ f 3 = .pointer (some ⟨b3, 0, none⟩) ∧ f 4 = .pointer (some ⟨b4, 0, none⟩) ∧ f 5 = .pointer (some ⟨b5, 0, none⟩) ∧ f 31 = .slice fa ov.fields.length fc ∧ f 32 = .int .i64 ov.fields.length ∧ f 33 = .int .i64 i ∧ l = (ov.fields.take i).foldl (stepF e) (if bv.sc.kind = 7 then bv.fields else []) ∧ Cxr w0 w1 [(b5, .cells (vrow (zk 7) bs ls v).toArray 33), (b4, .cells ([.int .i64 0, .bool false, .bool false, .string ByteArray.empty, .int .i64 0, .int .i64 0, .int .i64 0, .int .i64 0, .int .i64 0, .string ByteArray.empty, .slice none 0 0, .slice none 0 0, .slice none 0 0] : List Value).toArray 33), (b3, .cells (vrow ov.sc obs ols (.slice fa ov.fields.length fc)).toArray 33)] [⟨77, 14, v, l.length, rs.flatten⟩] ∧ RowsF (Dn w0 w1 [b3, b4, b5] v) w1 l rs) (ov.fields.length) ?_ ?_
    · skip
      exact ⟨0, _, fs, rs, by omega, hs3, hs4, hs5, rfl, rfl, rfl, rfl, cx, hrows⟩
    intro gk7 f w hJ
    obtain ⟨i, l, v, rs, hki, hs3, hs4, hs5, hs31, hs32, hs33, hl, cx, hrows⟩ := hJ
    refine wp_seq ?_
    refine wp_region_lit ?_
    refine s_val rfl rfl (v_cmp rfl hs33 hs32 rfl) ?_
    refine wpList_nil ?_
    refine wp_seq ?_
    refine c_split rfl (fun hc34 => ?_) (fun hc34 => ?_)
    · skip
      try simp only [Bool.and_eq_true, Bool.or_eq_true, Bool.and_eq_false_iff, Bool.or_eq_false_iff, Bool.not_eq_true', Bool.not_eq_false', decide_eq_true_eq, decide_eq_false_iff_not, beq_iff_eq, beq_eq_false_iff_ne, bne_iff_ne, bne_eq_false_iff_eq, ne_eq, Classical.not_not] at hc34
      have hfa1 := hfa (by omega)
      obtain ⟨r, hr, hrv⟩ := hfget i ov.fields[i] (List.getElem?_eq_getElem (by omega))
      rw [show (⟨fb, fo, none⟩ : Addr) = ⟨fb, fo, none⟩ from rfl] at hfa1
      obtain ⟨ebs, els, efs, rfl, _⟩ := hrv.open
      have hg := hgo.field (List.getElem_mem (show i < ov.fields.length by omega))
      obtain ⟨e1, he1, hLay⟩ := (gd_ovl (e + 1) (e + 1) mb mo bv ov hgb hgo (by omega) (by omega)).2 i (by omega) e rfl h7
      obtain rfl : e = e1 := by omega
      rw [← hl] at hLay
      have hllen : l.length ≤ mb + i := by have := hLay.len; omega
      have hon := (hgo.nw 1).1
      have hK := Kp.dn w0 w [b3, b4, b5] v
      refine wp_skip ?_
      refine w_cut (fun f w1 => ∃ (l' : List (ByteArray × V)) (v : Value) (rs : List (List Value)), f 3 = .pointer (some ⟨b3, 0, none⟩) ∧ f 4 = .pointer (some ⟨b4, 0, none⟩) ∧ f 5 = .pointer (some ⟨b5, 0, none⟩) ∧ f 31 = .slice fa ov.fields.length fc ∧ f 32 = .int .i64 ov.fields.length ∧ f 33 = .int .i64 i ∧ l' = stepF e l ov.fields[i] ∧ Cxr w0 w1 [(b5, .cells (vrow (zk 7) bs ls v).toArray 33), (b4, .cells ([.int .i64 0, .bool false, .bool false, .string ByteArray.empty, .int .i64 0, .int .i64 0, .int .i64 0, .int .i64 0, .int .i64 0, .string ByteArray.empty, .slice none 0 0, .slice none 0 0, .slice none 0 0] : List Value).toArray 33), (b3, .cells (vrow ov.sc obs ols (.slice fa ov.fields.length fc)).toArray 33)] [⟨77, 14, v, l'.length, rs.flatten⟩] ∧ RowsF (Dn w0 w1 [b3, b4, b5] v) w1 l' rs) ?_ ?_
      · skip
        refine wp_block ?_
        refine wp_seq ?_
        refine wp_region_lit ?_
        refine s_val rfl rfl (v_ia Try.underlying31 sz77 rfl (hs31.trans (by rw [hfa1])) hs33 (by omega) (by omega)) ?_
        refine s_val rfl rfl (v_load rfl rfl Try.underlying77 rfl sz77 (hr.up cx.ext) rfl) ?_
        refine s_alloc cx z77 rfl rfl rfl ?_; intro b7 w cx hb7 hw7
        have hl7 := Nat.le_trans hK.sz (Nat.le_of_eq hb7)
        replace hK := hK.below hw7
        refine s_storeAllG cx 0 rfl rfl rfl rfl rfl rfl sz77 rfl (by exact hrv.oneCell) ?_; intro w cx hg7
        replace hK := hK.later hg7 hl7
        refine wpList_nil ?_
        refine wp_seq ?_
        refine wp_seq ?_
        refine wp_region_lit ?_
        refine s_val rfl rfl (v_fa fa77_1 rfl rfl) ?_
        refine s_val rfl rfl (v_fa fa33_0 rfl rfl) ?_
        refine s_val rfl rfl (v_load1 rfl rfl Try.underlying3 rfl (cx.cell 0 rfl rfl)) ?_
        refine s_val rfl rfl (v_cmp rfl rfl rfl rfl) ?_
        refine wpList_nil ?_
        refine c_split rfl (fun hc40 => ?_) (fun hc40 => ?_)
        · skip
          try simp only [Bool.and_eq_true, Bool.or_eq_true, Bool.and_eq_false_iff, Bool.or_eq_false_iff, Bool.not_eq_true', Bool.not_eq_false', decide_eq_true_eq, decide_eq_false_iff_not, beq_iff_eq, beq_eq_false_iff_ne, bne_iff_ne, bne_eq_false_iff_eq, ne_eq, Classical.not_not] at hc40
          refine wp_seq ?_
          refine wp_region_lit ?_
          refine s_val rfl rfl (v_fa fa33_7 rfl hs5) ?_
          refine s_val rfl rfl (v_load1 rfl rfl Try.underlying31 rfl (cx.cell 1 rfl rfl)) ?_
          refine s_val rfl rfl (v_fa fa77_0 rfl rfl) ?_
          refine s_val rfl rfl (v_load1 rfl rfl Try.underlying9 rfl (cx.cell 0 rfl rfl)) ?_
          have cxc := cx
          have hrowsC := RowsF.mono (Dn.step (w0 := w0) (ids := [b3, b4, b5]) hK.sz (Nat.le_refl _) (fun q hq => .inl hq)) hK.kp _ _ hrows
          have hF := fld_of_row cx.head rfl hrowsC (fun _ _ => rfl)
          refine s_fn cx (c77 _ l v ov.fields[i].1 _ (by
            rintro b (hb | hb)
            · exact Dn.lt b hb
            · exact (Made_lt cx.head b hb).2) hF (by omega)) Try.func77 rfl rfl rfl rfl rfl rfl ?_; intro q45 w cx hw45 hp45
          obtain ⟨rs45, hro, hrs45⟩ := hp45
          replace cx := (cxc.dropR 1).callRow hw45 hro
          have hrs1 := RowsF.mono (Dn.swap cxc (by intro i hi; rcases (by simpa using hi : i = b3 ∨ i = b4 ∨ i = b5) with rfl | rfl | rfl <;> simp) hw45.size (fun q hq => (Made_lt hro q hq).1)) (fun _ _ => rfl) _ _ hrs45
          replace hK := Kp.dn w0 w [b3, b4, b5] q45
          refine s_val rfl rfl (v_fa fa33_7 rfl hs5) ?_
          refine s_store1G cx 1 rfl rfl rfl rfl rfl (own_one hro) rfl rfl rfl ?_; intro w cx hg10
          replace hK := hK.dnId hg10 (by simp)
          have hE := RowsF.mono (A' := Dn w0 w [b3, b4, b5] q45) (fun b hb => ⟨⟨hb.1.1, Nat.lt_of_lt_of_le hb.1.2 hK.sz⟩, hb.2⟩) hK.kp _ _ hrs1
          refine wpList_nil ?_
          refine wp_exit ?_
          first
          | exact ⟨_, rfl, dropF ov.fields[i].1 l, q45, rs45, hs3, hs4, hs5, hs31, hs32, hs33, by unfold stepF; rw [if_pos hc40], cx.drop 1, hE⟩
          | exact ⟨_, rfl, setF ov.fields[i].1 u l, v, rs, hs3, hs4, hs5, hs31, hs32, hs33, by unfold stepF putF; rw [if_neg hc40, if_pos hc76, hu0], by rw [show (setF ov.fields[i].1 u l).length = l.length by simp [setF]]; exact cx.drop 2, hrows⟩
          | (refine ⟨_, rfl, l ++ [(ov.fields[i].1, u)], .slice (some ⟨vg5, 0, none⟩) (l.length + 1) vc5, rs ++ [.string ov.fields[i].1 :: vrow u.sc ubs uls ufs], hs3, hs4, hs5, hs31, hs32, hs33, ?_, ?_, ?_⟩
             · unfold stepF putF
               rw [if_neg hc40, if_neg (by rw [hnf]; decide), hu0]
             · have hfl := flat_snoc (rs := rs) (z := [.string ByteArray.empty, .int .i64 0, .bool false, .bool false, .string ByteArray.empty, .int .i64 0, .int .i64 0, .int .i64 0, .int .i64 0, .int .i64 0, .string ByteArray.empty, .slice none 0 0, .slice none 0 0, .slice none 0 0]) (l := .string ov.fields[i].1 :: vrow u.sc ubs uls ufs) hlen14 rfl (show 0 + l.length * 14 = l.length * 14 by omega)
               rw [← hfl, List.length_append]
               exact cx.drop 3
             · refine RowsF.snoc _ _ (RowsF.mono ?_ hK.kp _ _ hrows) (RepV.mono ?_ hK.kp _ _ hu)
               · exact Dn.step hK.sz hm0 hnw85
               · exact Dn.step hK.sz hm0 hnw85)
        · skip
          try simp only [Bool.and_eq_true, Bool.or_eq_true, Bool.and_eq_false_iff, Bool.or_eq_false_iff, Bool.not_eq_true', Bool.not_eq_false', decide_eq_true_eq, decide_eq_false_iff_not, beq_iff_eq, beq_eq_false_iff_ne, bne_iff_ne, bne_eq_false_iff_eq, ne_eq, Classical.not_not] at hc40
          refine wp_skip ?_
          refine w_cut (fun f w1 => ∃ (b8 : Nat) (r52 : List Value), f 3 = .pointer (some ⟨b3, 0, none⟩) ∧ f 4 = .pointer (some ⟨b4, 0, none⟩) ∧ f 5 = .pointer (some ⟨b5, 0, none⟩) ∧ f 7 = .pointer (some ⟨b7, 0, none⟩) ∧ f 8 = .pointer (some ⟨b8, 0, none⟩) ∧ f 31 = .slice fa ov.fields.length fc ∧ f 32 = .int .i64 ov.fields.length ∧ f 33 = .int .i64 i ∧ Cxr w0 w1 [(b8, .cells r52.toArray 33), (b7, .cells (.string ov.fields[i].1 :: vrow ov.fields[i].2.sc ebs els efs).toArray 77), (b5, .cells (vrow (zk 7) bs ls v).toArray 33), (b4, .cells ([.int .i64 0, .bool false, .bool false, .string ByteArray.empty, .int .i64 0, .int .i64 0, .int .i64 0, .int .i64 0, .int .i64 0, .string ByteArray.empty, .slice none 0 0, .slice none 0 0, .slice none 0 0] : List Value).toArray 33), (b3, .cells (vrow ov.sc obs ols (.slice fa ov.fields.length fc)).toArray 33)] [⟨77, 14, v, l.length, rs.flatten⟩] ∧ RepV (Dn w0 w1 [b3, b4, b5] v) w1 (ovl e ((hasF ov.fields[i].1 l).getD nulV) ov.fields[i].2) r52 ∧ RowsF (Dn w0 w1 [b3, b4, b5] v) w1 l rs) ?_ ?_
          · skip
            refine w_ord cx (cx.pick1 0 rfl) mixed [(0, 47), (1, 48), (3, 50), (4, 51)] #[true, true, false, true, true, false, false, false] (by kernel_rfl) (by kernel_rfl) (by kernel_rfl) (by kernel_rfl) ?_
            refine pu_one rfl (wnt_none rfl) (fun w cx => v_fa fa77_0 rfl rfl) ?_
            refine pu_one rfl (wnt_none rfl) (fun w cx => v_load1 rfl rfl Try.underlying9 rfl (cx.cell 0 rfl rfl)) ?_
            refine pu_one rfl (wnt_none rfl) (fun w cx => v_fa fa77_1 rfl rfl) ?_
            refine pu_one rfl (wnt_none rfl) (fun w cx => v_load rfl rfl Try.underlying33 rfl sz33 ((cx.row 0 rfl).rv 1 rfl) rfl) ?_
            refine pu_nil ?_; intro w cx hwD11
            replace hK := hK.below hwD11
            refine x_two (i := 2) (j := 6) (by kernel_rfl) rfl rfl ?_ ?_
            · skip
              have hrowsC := RowsF.mono (Dn.step (w0 := w0) (ids := [b3, b4, b5]) hK.sz (Nat.le_refl _) (fun q hq => .inl hq)) hK.kp _ _ hrows
              have hF := fld_of_row cx.head rfl hrowsC (fun _ _ => rfl)
              have hVal : Val w (mapV l) (vrow (zk 7) bs ls v) := RepV.mk (v := mapV l) (hbA _ _) (hlA _ _) (RepF.mono (by
                rintro b (hb | hb)
                · exact Dn.lt b hb
                · exact (Made_lt cx.head b hb).2) (fun _ _ => rfl) hF)
              have hgM := gd_mapV hLay.nd hLay.good (by omega) (by omega)
              refine s_fn cx (c61 (e + 1) (mapV l) _ b5 ov.fields[i].1 _ (deep_of_okd _ _ hgM.ok) (by omega) (cx.row 1 rfl) hVal hgM.fine rfl) Try.func61 rfl rfl rfl rfl rfl (cons_eq hs5 rfl) ?_; intro q49 w cx hw49 hp49
              replace hK := hK.below hw49
              have hP : Ptr w q49 ((hasF ov.fields[i].1 l).getD nulV) := by
                replace hp49 : match hasF ov.fields[i].1 l with | some u => ∃ b' r', q49 = .pointer (some ⟨b', 0, none⟩) ∧ RowAt w b' 0 r' ∧ Val w u r' | none => q49 = .pointer none := hp49
                cases hh : hasF ov.fields[i].1 l with
                | none => rw [hh] at hp49; rw [hp49]; exact Ptr.nil
                | some u =>
                  rw [hh] at hp49
                  obtain ⟨b', r', rfl, h1, h2⟩ := hp49
                  exact Ptr.of h1 h2
              refine x_next ⟨.inl (cx.pick1 0 rfl), ?_⟩
              refine x_two (i := 5) (j := 6) (by kernel_rfl) rfl rfl ?_ ?_
              · skip
                have cxc := cx
                obtain ⟨e', rfl⟩ : ∃ e', e = e' + 1 := by
                  cases e with
                  | zero => exact hg.2.ok.elim
                  | succ e' => exact ⟨e', rfl⟩
                have hgB := hLay.base h0good (List.getElem?_eq_getElem (show i < ov.fields.length by omega))
                refine s_fn cx (ih mb mo _ ov.fields[i].2 q49 _ _ hgB hg.2 (by omega) (by omega) hP (hrv.up cx.ext)) Try.func50 rfl rfl rfl rfl rfl rfl ?_; intro q52 w cx hw52 hp52
                obtain ⟨r52, rfl, hm52⟩ := hp52.rep
                replace hK := hK.below hw52
                have hKn := Kp.fr hw52
                refine x_next ⟨.inr (by kernel_rfl), ?_⟩
                refine x_one (i := 6) (by kernel_rfl) rfl ?_
                refine s_alloc cx z33 rfl rfl rfl ?_; intro b8 w cx hb8 hw8
                have hl8 := Nat.le_trans hK.sz (Nat.le_of_eq hb8)
                try have hl8n := Nat.le_trans hKn.sz (Nat.le_of_eq hb8)
                replace hK := hK.below hw8
                try replace hKn := hKn.below hw8
                try replace hP := hP.up hw8
                refine x_next ⟨.inl (cx.pick1 1 rfl), ?_⟩
                refine x_one (i := 7) (by kernel_rfl) rfl ?_
                refine s_storeAllG cx 0 rfl rfl rfl rfl rfl rfl (by rw [hm52.len]; exact sz33) (by rw [hm52.len]; rfl) hm52.one ?_; intro w cx hg8
                first
                | replace hKn := hKn.later hg8 hl8n
                | replace hKn := hKn.grown hg8 (fun b hb e => by have h1 := (cxc.lts b8 (by simp)).2; have h2 := hb.1; simp at e; omega)
                replace hK := hK.later hg8 hl8
                refine x_next ⟨.inr (by kernel_rfl), ?_⟩
                refine x_done (by kernel_rfl) ?_
                exact ⟨_, rfl, b8, r52, hs3, hs4, hs5, rfl, rfl, hs31, hs32, hs33, cx, RepV.mono (Dn.new (w0 := w0) (ids := [b3, b4, b5]) cxc.ext.size hKn.sz (fun i hi => (cxc.lts i (by rcases (by simpa using hi : i = b3 ∨ i = b4 ∨ i = b5) with rfl | rfl | rfl <;> simp)).2) (fun q hq => (Made_lt cxc.head q hq).2) (Nat.le_refl _) (fun q hq => .inl hq)) hKn.kp _ _ hm52, RowsF.mono (Dn.step (w0 := w0) (ids := [b3, b4, b5]) hK.sz (Nat.le_refl _) (fun q hq => .inl hq)) hK.kp _ _ hrows⟩
              · skip
                refine s_alloc cx z33 rfl rfl rfl ?_; intro b8 w cx hb8 hw8
                have hl8 := Nat.le_trans hK.sz (Nat.le_of_eq hb8)
                try have hl8n := Nat.le_trans hKn.sz (Nat.le_of_eq hb8)
                replace hK := hK.below hw8
                try replace hKn := hKn.below hw8
                try replace hP := hP.up hw8
                refine x_next ⟨.inl (cx.pick1 1 rfl), ?_⟩
                refine x_one (i := 5) (by kernel_rfl) rfl ?_
                have cxc := cx
                obtain ⟨e', rfl⟩ : ∃ e', e = e' + 1 := by
                  cases e with
                  | zero => exact hg.2.ok.elim
                  | succ e' => exact ⟨e', rfl⟩
                have hgB := hLay.base h0good (List.getElem?_eq_getElem (show i < ov.fields.length by omega))
                refine s_fn cx (ih mb mo _ ov.fields[i].2 q49 _ _ hgB hg.2 (by omega) (by omega) hP (hrv.up cx.ext)) Try.func50 rfl rfl rfl rfl rfl rfl ?_; intro q52 w cx hw52 hp52
                obtain ⟨r52, rfl, hm52⟩ := hp52.rep
                replace hK := hK.below hw52
                have hKn := Kp.fr hw52
                refine x_next ⟨.inr (by kernel_rfl), ?_⟩
                refine x_one (i := 7) (by kernel_rfl) rfl ?_
                refine s_storeAllG cx 0 rfl rfl rfl rfl rfl rfl (by rw [hm52.len]; exact sz33) (by rw [hm52.len]; rfl) hm52.one ?_; intro w cx hg8
                first
                | replace hKn := hKn.later hg8 hl8n
                | replace hKn := hKn.grown hg8 (fun b hb e => by have h1 := (cxc.lts b8 (by simp)).2; have h2 := hb.1; simp at e; omega)
                replace hK := hK.later hg8 hl8
                refine x_next ⟨.inr (by kernel_rfl), ?_⟩
                refine x_done (by kernel_rfl) ?_
                exact ⟨_, rfl, b8, r52, hs3, hs4, hs5, rfl, rfl, hs31, hs32, hs33, cx, RepV.mono (Dn.new (w0 := w0) (ids := [b3, b4, b5]) cxc.ext.size hKn.sz (fun i hi => (cxc.lts i (by rcases (by simpa using hi : i = b3 ∨ i = b4 ∨ i = b5) with rfl | rfl | rfl <;> simp)).2) (fun q hq => (Made_lt cxc.head q hq).2) (Nat.le_refl _) (fun q hq => .inl hq)) hKn.kp _ _ hm52, RowsF.mono (Dn.step (w0 := w0) (ids := [b3, b4, b5]) hK.sz (Nat.le_refl _) (fun q hq => .inl hq)) hK.kp _ _ hrows⟩
            · skip
              refine s_alloc cx z33 rfl rfl rfl ?_; intro b8 w cx hb8 hw8
              have hl8 := Nat.le_trans hK.sz (Nat.le_of_eq hb8)
              try have hl8n := Nat.le_trans hKn.sz (Nat.le_of_eq hb8)
              replace hK := hK.below hw8
              try replace hKn := hKn.below hw8
              try replace hP := hP.up hw8
              refine x_next ⟨.inl (cx.pick1 1 rfl), ?_⟩
              refine x_one (i := 2) (by kernel_rfl) rfl ?_
              have hrowsC := RowsF.mono (Dn.step (w0 := w0) (ids := [b3, b4, b5]) hK.sz (Nat.le_refl _) (fun q hq => .inl hq)) hK.kp _ _ hrows
              have hF := fld_of_row cx.head rfl hrowsC (fun _ _ => rfl)
              have hVal : Val w (mapV l) (vrow (zk 7) bs ls v) := RepV.mk (v := mapV l) (hbA _ _) (hlA _ _) (RepF.mono (by
                rintro b (hb | hb)
                · exact Dn.lt b hb
                · exact (Made_lt cx.head b hb).2) (fun _ _ => rfl) hF)
              have hgM := gd_mapV hLay.nd hLay.good (by omega) (by omega)
              refine s_fn cx (c61 (e + 1) (mapV l) _ b5 ov.fields[i].1 _ (deep_of_okd _ _ hgM.ok) (by omega) (cx.row 2 rfl) hVal hgM.fine rfl) Try.func61 rfl rfl rfl rfl rfl (cons_eq hs5 rfl) ?_; intro q49 w cx hw49 hp49
              replace hK := hK.below hw49
              have hP : Ptr w q49 ((hasF ov.fields[i].1 l).getD nulV) := by
                replace hp49 : match hasF ov.fields[i].1 l with | some u => ∃ b' r', q49 = .pointer (some ⟨b', 0, none⟩) ∧ RowAt w b' 0 r' ∧ Val w u r' | none => q49 = .pointer none := hp49
                cases hh : hasF ov.fields[i].1 l with
                | none => rw [hh] at hp49; rw [hp49]; exact Ptr.nil
                | some u =>
                  rw [hh] at hp49
                  obtain ⟨b', r', rfl, h1, h2⟩ := hp49
                  exact Ptr.of h1 h2
              refine x_next ⟨.inl (cx.pick1 1 rfl), ?_⟩
              refine x_one (i := 5) (by kernel_rfl) rfl ?_
              have cxc := cx
              obtain ⟨e', rfl⟩ : ∃ e', e = e' + 1 := by
                cases e with
                | zero => exact hg.2.ok.elim
                | succ e' => exact ⟨e', rfl⟩
              have hgB := hLay.base h0good (List.getElem?_eq_getElem (show i < ov.fields.length by omega))
              refine s_fn cx (ih mb mo _ ov.fields[i].2 q49 _ _ hgB hg.2 (by omega) (by omega) hP (hrv.up cx.ext)) Try.func50 rfl rfl rfl rfl rfl rfl ?_; intro q52 w cx hw52 hp52
              obtain ⟨r52, rfl, hm52⟩ := hp52.rep
              replace hK := hK.below hw52
              have hKn := Kp.fr hw52
              refine x_next ⟨.inr (by kernel_rfl), ?_⟩
              refine x_one (i := 7) (by kernel_rfl) rfl ?_
              refine s_storeAllG cx 0 rfl rfl rfl rfl rfl rfl (by rw [hm52.len]; exact sz33) (by rw [hm52.len]; rfl) hm52.one ?_; intro w cx hg8
              first
              | replace hKn := hKn.later hg8 hl8n
              | replace hKn := hKn.grown hg8 (fun b hb e => by have h1 := (cxc.lts b8 (by simp)).2; have h2 := hb.1; simp at e; omega)
              replace hK := hK.later hg8 hl8
              refine x_next ⟨.inr (by kernel_rfl), ?_⟩
              refine x_done (by kernel_rfl) ?_
              exact ⟨_, rfl, b8, r52, hs3, hs4, hs5, rfl, rfl, hs31, hs32, hs33, cx, RepV.mono (Dn.new (w0 := w0) (ids := [b3, b4, b5]) cxc.ext.size hKn.sz (fun i hi => (cxc.lts i (by rcases (by simpa using hi : i = b3 ∨ i = b4 ∨ i = b5) with rfl | rfl | rfl <;> simp)).2) (fun q hq => (Made_lt cxc.head q hq).2) (Nat.le_refl _) (fun q hq => .inl hq)) hKn.kp _ _ hm52, RowsF.mono (Dn.step (w0 := w0) (ids := [b3, b4, b5]) hK.sz (Nat.le_refl _) (fun q hq => .inl hq)) hK.kp _ _ hrows⟩
          intro f w hJ
          obtain ⟨b8, r52, hs3, hs4, hs5, hs7, hs8, hs31, hs32, hs33, cx, hu, hrows⟩ := hJ
          obtain ⟨u, hu0⟩ : ∃ u, u = ovl e ((hasF ov.fields[i].1 l).getD nulV) ov.fields[i].2 := ⟨_, rfl⟩
          rw [← hu0] at hu
          obtain ⟨ubs, uls, ufs, rfl, _⟩ := hu.open
          refine wp_seq ?_
          refine wp_region_lit ?_
          refine s_val rfl rfl (v_assign rfl rfl) ?_
          refine wpList_nil ?_
          refine wp_seq ?_
          refine wp_seq ?_
          refine wp_region_lit ?_
          obtain ⟨va, vc, hve, hvg⟩ := cx.ownRow
          refine s_val rfl rfl (v_fa fa33_7 rfl hs5) ?_
          refine s_val rfl rfl (v_load1 rfl rfl Try.underlying31 rfl (cx.cell 2 rfl rfl)) ?_
          refine s_val rfl rfl (v_lenSlice rfl hve Try.underlying31) ?_
          refine s_val rfl rfl (v_move rfl rfl) ?_
          refine wpList_nil ?_
          refine wp_block ?_
          refine w_loop (fun k f w1 => ∃ (j : Nat) (rs : List (List Value)), k + j = l.length ∧ f 3 = .pointer (some ⟨b3, 0, none⟩) ∧ f 4 = .pointer (some ⟨b4, 0, none⟩) ∧ f 5 = .pointer (some ⟨b5, 0, none⟩) ∧ f 7 = .pointer (some ⟨b7, 0, none⟩) ∧ f 8 = .pointer (some ⟨b8, 0, none⟩) ∧ f 31 = .slice fa ov.fields.length fc ∧ f 32 = .int .i64 ov.fields.length ∧ f 33 = .int .i64 i ∧ f 9 = .bool (hasF ov.fields[i].1 (l.take j)).isSome ∧ f 55 = .int .i64 l.length ∧ f 56 = .int .i64 j ∧ Cxr w0 w1 [(b8, .cells (vrow u.sc ubs uls ufs).toArray 33), (b7, .cells (.string ov.fields[i].1 :: vrow ov.fields[i].2.sc ebs els efs).toArray 77), (b5, .cells (vrow (zk 7) bs ls v).toArray 33), (b4, .cells ([.int .i64 0, .bool false, .bool false, .string ByteArray.empty, .int .i64 0, .int .i64 0, .int .i64 0, .int .i64 0, .int .i64 0, .string ByteArray.empty, .slice none 0 0, .slice none 0 0, .slice none 0 0] : List Value).toArray 33), (b3, .cells (vrow ov.sc obs ols (.slice fa ov.fields.length fc)).toArray 33)] [⟨77, 14, v, l.length, rs.flatten⟩] ∧ RepV (Dn w0 w1 [b3, b4, b5] v) w1 u (vrow u.sc ubs uls ufs) ∧ RowsF (Dn w0 w1 [b3, b4, b5] v) w1 (setF ov.fields[i].1 u (l.take j) ++ l.drop j) rs) (l.length) ?_ ?_
          · skip
            exact ⟨0, rs, by omega, hs3, hs4, hs5, hs7, hs8, hs31, hs32, hs33, rfl, rfl, rfl, cx, hu, by simpa [setF] using hrows⟩
          intro gk14 f w hJ
          obtain ⟨j, rs, hkj, hs3, hs4, hs5, hs7, hs8, hs31, hs32, hs33, hs9, hs55, hs56, cx, hu, hrows⟩ := hJ
          refine wp_seq ?_
          refine wp_region_lit ?_
          refine s_val rfl rfl (v_cmp rfl hs56 hs55 rfl) ?_
          refine wpList_nil ?_
          refine wp_seq ?_
          refine c_split rfl (fun hc57 => ?_) (fun hc57 => ?_)
          · skip
            try simp only [Bool.and_eq_true, Bool.or_eq_true, Bool.and_eq_false_iff, Bool.or_eq_false_iff, Bool.not_eq_true', Bool.not_eq_false', decide_eq_true_eq, decide_eq_false_iff_not, beq_iff_eq, beq_eq_false_iff_ne, bne_iff_ne, bne_eq_false_iff_eq, ne_eq, Classical.not_not] at hc57
            obtain ⟨va, vc, hve, hvg⟩ := cx.ownRow
            obtain ⟨vg, hva, hvr⟩ := hvg (by omega)
            subst hva
            obtain ⟨lj, hrj, hvj⟩ := RowsF.at _ rs j l[j] hrows (setF_get (by omega))
            have hrowj := RowAt.flat (A := Dn w0 w [b3, b4, b5] v) (fs := setF ov.fields[i].1 u (l.take j) ++ l.drop j) hvr (RowsF.lens _ _ hrows) hrj
            have hK := Kp.dn w0 w [b3, b4, b5] v
            refine wp_skip ?_
            refine wp_seq ?_
            refine wp_block ?_
            refine wp_seq ?_
            refine wp_region_lit ?_
            refine s_val rfl rfl (v_move rfl hs56) ?_
            refine s_val rfl rfl (v_assign rfl rfl) ?_
            refine wpList_nil ?_
            refine wp_seq ?_
            refine w_still cx mixed (by kernel_rfl) ?_; intro w cx hwD16
            skip
            replace hK := hK.below hwD16
            refine t_val rfl rfl (v_fa fa33_7 rfl hs5) ?_
            refine t_val rfl rfl (v_load1 rfl rfl Try.underlying31 rfl (cx.cell 2 rfl rfl)) ?_
            refine t_val rfl rfl (v_move rfl rfl) ?_
            refine t_val rfl rfl (v_ia Try.underlying31 sz77 rfl hve rfl (by omega) (by omega)) ?_
            refine t_val rfl rfl (v_fa fa77_0 rfl rfl) ?_
            refine t_val rfl rfl (v_load1 rfl rfl Try.underlying9 rfl ((hrowj.up hwD16).cell 0 rfl)) ?_
            refine t_val rfl rfl (v_fa fa77_0 rfl hs7) ?_
            refine t_val rfl rfl (v_load1 rfl rfl Try.underlying9 rfl (cx.cell 1 rfl rfl)) ?_
            refine t_val rfl rfl (v_strEq rfl rfl rfl) ?_
            refine t_nil ?_
            refine c_split rfl (fun hc67 => ?_) (fun hc67 => ?_)
            · skip
              try simp only [Bool.and_eq_true, Bool.or_eq_true, Bool.and_eq_false_iff, Bool.or_eq_false_iff, Bool.not_eq_true', Bool.not_eq_false', decide_eq_true_eq, decide_eq_false_iff_not, beq_iff_eq, beq_eq_false_iff_ne, bne_iff_ne, bne_eq_false_iff_eq, ne_eq, Classical.not_not] at hc67
              refine wp_seq ?_
              refine wp_region_lit ?_
              refine s_val rfl rfl (v_fa fa33_7 rfl hs5) ?_
              refine s_val rfl rfl (v_load1 rfl rfl Try.underlying31 rfl (cx.cell 2 rfl rfl)) ?_
              refine s_val rfl rfl (v_move rfl rfl) ?_
              refine s_val rfl rfl (v_load rfl hs8 Try.underlying33 rfl sz33 (cx.row 0 rfl) rfl) ?_
              refine s_val rfl rfl (v_ia Try.underlying31 sz77 rfl hve rfl (by omega) (by omega)) ?_
              refine s_val rfl rfl (v_fa fa77_1 rfl rfl) ?_
              have hj14 : j < l.length := by omega
              rw [hve] at cx
              refine s_storeRow cx rfl rfl rfl rfl rfl sz33 (by show 0 + j * 14 + 1 + 13 ≤ l.length * 14; omega) hu.one ?_; intro w cx hgr17 hsz17
              rw [← hve] at cx
              replace hK := hK.grown hgr17 (fun b hb e => hb.2.2 (by rw [hve]; exact e))
              refine wpList_nil ?_
              refine wp_region_lit ?_
              refine s_val rfl rfl (v_assign rfl rfl) ?_
              refine wpList_nil ?_
              refine wp_region_lit ?_
              refine s_val rfl rfl (v_add rfl hs56 rfl (by omega) (by omega)) ?_
              refine s_val rfl rfl (v_move rfl rfl) ?_
              refine wpList_nil ?_
              first
              | (refine ⟨gk14 - 1, _, by omega, rfl, j + 1, rs.set j (.string l[j].1 :: vrow u.sc ubs uls ufs), by omega, hs3, hs4, hs5, hs7, hs8, hs31, hs32, hs33, ?_, hs55, rfl, ?_, ?_, ?_⟩
                 · show Value.bool true = _
                   rw [hasF_snoc hj14, hc67]; simp
                 · have hfs := flat_set rs j (.string l[j].1) lj (vrow u.sc ubs uls ufs) (RowsF.lens _ _ hrows) hrj rfl
                   rw [Int.toNat_natCast, Nat.zero_add, hfs] at cx
                   exact cx
                 · exact RepV.mono (fun b hb => ⟨⟨hb.1.1, Nat.lt_of_lt_of_le hb.1.2 hK.sz⟩, hb.2⟩) hK.kp _ _ hu
                 · rw [setF_step hj14, if_pos hc67]
                   exact RowsF.mono (fun b hb => ⟨⟨hb.1.1, Nat.lt_of_lt_of_le hb.1.2 hK.sz⟩, hb.2⟩) hK.kp _ _ (RowsF.set hu _ _ j l[j] hrows (setF_get hj14)))
              | (refine ⟨gk14 - 1, _, by omega, rfl, j + 1, rs, by omega, hs3, hs4, hs5, hs7, hs8, hs31, hs32, hs33, ?_, hs55, rfl, cx, ?_, ?_⟩
                 · refine hs9.trans ?_
                   rw [hasF_snoc (by omega)]
                   simp [hc67]
                 · exact RepV.mono (fun b hb => ⟨⟨hb.1.1, Nat.lt_of_lt_of_le hb.1.2 hwD16.size⟩, hb.2⟩) (fun b hb => hwD16.block b hb.1.2) _ _ hu
                 · rw [setF_step (by omega), if_neg hc67]
                   exact RowsF.mono (fun b hb => ⟨⟨hb.1.1, Nat.lt_of_lt_of_le hb.1.2 hwD16.size⟩, hb.2⟩) (fun b hb => hwD16.block b hb.1.2) _ _ hrows)
            · skip
              try simp only [Bool.and_eq_true, Bool.or_eq_true, Bool.and_eq_false_iff, Bool.or_eq_false_iff, Bool.not_eq_true', Bool.not_eq_false', decide_eq_true_eq, decide_eq_false_iff_not, beq_iff_eq, beq_eq_false_iff_ne, bne_iff_ne, bne_eq_false_iff_eq, ne_eq, Classical.not_not] at hc67
              refine wp_skip ?_
              refine wp_region_lit ?_
              refine s_val rfl rfl (v_add rfl hs56 rfl (by omega) (by omega)) ?_
              refine s_val rfl rfl (v_move rfl rfl) ?_
              refine wpList_nil ?_
              first
              | (refine ⟨gk14 - 1, _, by omega, rfl, j + 1, rs.set j (.string l[j].1 :: vrow u.sc ubs uls ufs), by omega, hs3, hs4, hs5, hs7, hs8, hs31, hs32, hs33, ?_, hs55, rfl, ?_, ?_, ?_⟩
                 · show Value.bool true = _
                   rw [hasF_snoc hj14, hc67]; simp
                 · have hfs := flat_set rs j (.string l[j].1) lj (vrow u.sc ubs uls ufs) (RowsF.lens _ _ hrows) hrj rfl
                   rw [Int.toNat_natCast, Nat.zero_add, hfs] at cx
                   exact cx
                 · exact RepV.mono (fun b hb => ⟨⟨hb.1.1, Nat.lt_of_lt_of_le hb.1.2 hK.sz⟩, hb.2⟩) hK.kp _ _ hu
                 · rw [setF_step hj14, if_pos hc67]
                   exact RowsF.mono (fun b hb => ⟨⟨hb.1.1, Nat.lt_of_lt_of_le hb.1.2 hK.sz⟩, hb.2⟩) hK.kp _ _ (RowsF.set hu _ _ j l[j] hrows (setF_get hj14)))
              | (refine ⟨gk14 - 1, _, by omega, rfl, j + 1, rs, by omega, hs3, hs4, hs5, hs7, hs8, hs31, hs32, hs33, ?_, hs55, rfl, cx, ?_, ?_⟩
                 · refine hs9.trans ?_
                   rw [hasF_snoc (by omega)]
                   simp [hc67]
                 · exact RepV.mono (fun b hb => ⟨⟨hb.1.1, Nat.lt_of_lt_of_le hb.1.2 hwD16.size⟩, hb.2⟩) (fun b hb => hwD16.block b hb.1.2) _ _ hu
                 · rw [setF_step (by omega), if_neg hc67]
                   exact RowsF.mono (fun b hb => ⟨⟨hb.1.1, Nat.lt_of_lt_of_le hb.1.2 hwD16.size⟩, hb.2⟩) (fun b hb => hwD16.block b hb.1.2) _ _ hrows)
          · skip
            try simp only [Bool.and_eq_true, Bool.or_eq_true, Bool.and_eq_false_iff, Bool.or_eq_false_iff, Bool.not_eq_true', Bool.not_eq_false', decide_eq_true_eq, decide_eq_false_iff_not, beq_iff_eq, beq_eq_false_iff_ne, bne_iff_ne, bne_eq_false_iff_eq, ne_eq, Classical.not_not] at hc57
            refine wp_exit ?_
            refine wp_seq ?_
            refine wp_region_lit ?_
            have hj : j = l.length := by omega
            subst hj
            rw [List.take_of_length_le (Nat.le_refl _), List.drop_length, List.append_nil] at hrows
            rw [List.take_of_length_le (Nat.le_refl _)] at hs9
            refine s_val rfl rfl (v_move rfl hs9) ?_
            refine s_val rfl rfl (v_not rfl rfl) ?_
            refine wpList_nil ?_
            refine c_split rfl (fun hc76 => ?_) (fun hc76 => ?_)
            · skip
              skip
              have hnf : (hasF ov.fields[i].1 l).isSome = false := by simpa using hc76
              rw [setF_none hnf] at hrows
              obtain ⟨va, vc, hve, hvg⟩ := cx.ownRow
              have hlen14 := (RowsF.length _ _ hrows).1
              have hK := Kp.dn w0 w [b3, b4, b5] v
              refine w_ord cx (cx.pick3 0 1 2 rfl rfl rfl rfl) mixed [(0, 77), (1, 78), (2, 79), (3, 80), (4, 81), (5, 82), (6, 83)] #[true, true, true, true, true, true, true, false, false, false, false, false, false] (by kernel_rfl) (by kernel_rfl) (by kernel_rfl) (by kernel_rfl) ?_
              refine pu_one rfl (wnt_none rfl) (fun w cx => v_fa fa33_7 rfl hs5) ?_
              refine pu_one rfl (wnt_none rfl) (fun w cx => v_load1 rfl rfl Try.underlying31 rfl (cx.cell 2 rfl rfl)) ?_
              refine pu_one rfl (wnt_none rfl) (fun w cx => v_fa fa77_0 rfl hs7) ?_
              refine pu_one rfl (wnt_none rfl) (fun w cx => v_load1 rfl rfl Try.underlying9 rfl (cx.cell 1 rfl rfl)) ?_
              refine pu_one rfl (wnt_none rfl) (fun w cx => v_load rfl hs8 Try.underlying33 rfl sz33 (cx.row 0 rfl) rfl) ?_
              refine pu_one rfl (wnt_none rfl) (fun w cx => v_build (bd77 _ _ _ _ _) rfl rfl) ?_
              refine pu_one rfl (wnt_none rfl) (fun w cx => v_lenSlice rfl hve Try.underlying31) ?_
              refine pu_nil ?_; intro w cx hwD21
              replace hK := hK.below hwD21
              refine x_one (i := 7) (by kernel_rfl) rfl ?_
              refine s_bsl1 cx Try.underlying31 sz77 z77 rfl rfl rfl rfl rfl rfl rfl rfl ?_; intro b84 w cx hb84 hw84
              replace hK := hK.below hw84
              have hm0 := hK.sz
              refine x_next ⟨.inl (cx.pick3 1 2 3 rfl rfl rfl rfl), ?_⟩
              refine x_one (i := 8) (by kernel_rfl) rfl ?_
              refine s_appendG (m := 1) cx ei77 Try.underlying31 rfl rfl rfl rfl rfl (cx.row 0 rfl) rfl rfl (by omega) ?_; intro v85 w cx hgr85 hnw85
              replace hK := hK.dnOwn hgr85
              obtain ⟨va5, vc5, rfl, hvg5⟩ := cx.ownRow
              obtain ⟨vg5, rfl, hvr5⟩ := hvg5 (by show 0 < l.length + 1; omega)
              refine x_next ⟨.inr (by kernel_rfl), ?_⟩
              refine x_two (i := 9) (j := 11) (by kernel_rfl) rfl rfl ?_ ?_
              · skip
                refine s_val rfl rfl (v_ia Try.underlying31 sz77 rfl rfl rfl (by omega) (by show (l.length : Int) < ((l.length + 1 : Nat) : Int); omega)) ?_
                refine x_next ⟨.inr (by kernel_rfl), ?_⟩
                refine x_two (i := 10) (j := 11) (by kernel_rfl) rfl rfl ?_ ?_
                · skip
                  refine s_storeRow (l := .string ov.fields[i].1 :: vrow u.sc ubs uls ufs) cx rfl rfl rfl rfl rfl sz77 (by show 0 + l.length * 14 + 14 ≤ (l.length + 1) * 14; omega) (by exact hu.one) ?_; intro w cx hgs10 hsz10
                  replace hK := hK.grown hgs10 (fun b hb e => by
                    rcases hnw85 vg5 rfl with h1 | h1
                    · exact hb.2.2 (h1.trans e)
                    · have h2 := hb.1.2
                      simp at e
                      omega)
                  refine x_next ⟨.inr (by kernel_rfl), ?_⟩
                  refine x_one (i := 11) (by kernel_rfl) rfl ?_
                  refine s_val rfl rfl (v_fa fa33_7 rfl hs5) ?_
                  refine x_next ⟨.inr (by kernel_rfl), ?_⟩
                  refine x_one (i := 12) (by kernel_rfl) rfl ?_
                  refine s_store1G cx 3 rfl rfl rfl rfl rfl rfl rfl rfl rfl ?_; intro w cx hgs12
                  replace hK := hK.dnId hgs12 (by simp)
                  refine x_next ⟨.inr (by kernel_rfl), ?_⟩
                  refine x_done (by kernel_rfl) ?_
                  first
                  | exact ⟨_, rfl, dropF ov.fields[i].1 l, q45, rs45, hs3, hs4, hs5, hs31, hs32, hs33, by unfold stepF; rw [if_pos hc40], cx.drop 1, hE⟩
                  | exact ⟨_, rfl, setF ov.fields[i].1 u l, v, rs, hs3, hs4, hs5, hs31, hs32, hs33, by unfold stepF putF; rw [if_neg hc40, if_pos hc76, hu0], by rw [show (setF ov.fields[i].1 u l).length = l.length by simp [setF]]; exact cx.drop 2, hrows⟩
                  | (refine ⟨_, rfl, l ++ [(ov.fields[i].1, u)], .slice (some ⟨vg5, 0, none⟩) (l.length + 1) vc5, rs ++ [.string ov.fields[i].1 :: vrow u.sc ubs uls ufs], hs3, hs4, hs5, hs31, hs32, hs33, ?_, ?_, ?_⟩
                     · unfold stepF putF
                       rw [if_neg hc40, if_neg (by rw [hnf]; decide), hu0]
                     · have hfl := flat_snoc (rs := rs) (z := [.string ByteArray.empty, .int .i64 0, .bool false, .bool false, .string ByteArray.empty, .int .i64 0, .int .i64 0, .int .i64 0, .int .i64 0, .int .i64 0, .string ByteArray.empty, .slice none 0 0, .slice none 0 0, .slice none 0 0]) (l := .string ov.fields[i].1 :: vrow u.sc ubs uls ufs) hlen14 rfl (show 0 + l.length * 14 = l.length * 14 by omega)
                       rw [← hfl, List.length_append]
                       exact cx.drop 3
                     · refine RowsF.snoc _ _ (RowsF.mono ?_ hK.kp _ _ hrows) (RepV.mono ?_ hK.kp _ _ hu)
                       · exact Dn.step hK.sz hm0 hnw85
                       · exact Dn.step hK.sz hm0 hnw85)
                · skip
                  refine s_val rfl rfl (v_fa fa33_7 rfl hs5) ?_
                  refine x_next ⟨.inr (by kernel_rfl), ?_⟩
                  refine x_two (i := 10) (j := 12) (by kernel_rfl) rfl rfl ?_ ?_
                  · skip
                    refine s_storeRow (l := .string ov.fields[i].1 :: vrow u.sc ubs uls ufs) cx rfl rfl rfl rfl rfl sz77 (by show 0 + l.length * 14 + 14 ≤ (l.length + 1) * 14; omega) (by exact hu.one) ?_; intro w cx hgs10 hsz10
                    replace hK := hK.grown hgs10 (fun b hb e => by
                      rcases hnw85 vg5 rfl with h1 | h1
                      · exact hb.2.2 (h1.trans e)
                      · have h2 := hb.1.2
                        simp at e
                        omega)
                    refine x_next ⟨.inr (by kernel_rfl), ?_⟩
                    refine x_one (i := 12) (by kernel_rfl) rfl ?_
                    refine s_store1G cx 3 rfl rfl rfl rfl rfl rfl rfl rfl rfl ?_; intro w cx hgs12
                    replace hK := hK.dnId hgs12 (by simp)
                    refine x_next ⟨.inr (by kernel_rfl), ?_⟩
                    refine x_done (by kernel_rfl) ?_
                    first
                    | exact ⟨_, rfl, dropF ov.fields[i].1 l, q45, rs45, hs3, hs4, hs5, hs31, hs32, hs33, by unfold stepF; rw [if_pos hc40], cx.drop 1, hE⟩
                    | exact ⟨_, rfl, setF ov.fields[i].1 u l, v, rs, hs3, hs4, hs5, hs31, hs32, hs33, by unfold stepF putF; rw [if_neg hc40, if_pos hc76, hu0], by rw [show (setF ov.fields[i].1 u l).length = l.length by simp [setF]]; exact cx.drop 2, hrows⟩
                    | (refine ⟨_, rfl, l ++ [(ov.fields[i].1, u)], .slice (some ⟨vg5, 0, none⟩) (l.length + 1) vc5, rs ++ [.string ov.fields[i].1 :: vrow u.sc ubs uls ufs], hs3, hs4, hs5, hs31, hs32, hs33, ?_, ?_, ?_⟩
                       · unfold stepF putF
                         rw [if_neg hc40, if_neg (by rw [hnf]; decide), hu0]
                       · have hfl := flat_snoc (rs := rs) (z := [.string ByteArray.empty, .int .i64 0, .bool false, .bool false, .string ByteArray.empty, .int .i64 0, .int .i64 0, .int .i64 0, .int .i64 0, .int .i64 0, .string ByteArray.empty, .slice none 0 0, .slice none 0 0, .slice none 0 0]) (l := .string ov.fields[i].1 :: vrow u.sc ubs uls ufs) hlen14 rfl (show 0 + l.length * 14 = l.length * 14 by omega)
                         rw [← hfl, List.length_append]
                         exact cx.drop 3
                       · refine RowsF.snoc _ _ (RowsF.mono ?_ hK.kp _ _ hrows) (RepV.mono ?_ hK.kp _ _ hu)
                         · exact Dn.step hK.sz hm0 hnw85
                         · exact Dn.step hK.sz hm0 hnw85)
                  · skip
                    refine s_store1G cx 3 rfl rfl rfl rfl rfl rfl rfl rfl rfl ?_; intro w cx hgs12
                    replace hK := hK.dnId hgs12 (by simp)
                    refine x_next ⟨.inr (by kernel_rfl), ?_⟩
                    refine x_one (i := 10) (by kernel_rfl) rfl ?_
                    refine s_storeRow (l := .string ov.fields[i].1 :: vrow u.sc ubs uls ufs) cx rfl rfl rfl rfl rfl sz77 (by show 0 + l.length * 14 + 14 ≤ (l.length + 1) * 14; omega) (by exact hu.one) ?_; intro w cx hgs10 hsz10
                    replace hK := hK.grown hgs10 (fun b hb e => by
                      rcases hnw85 vg5 rfl with h1 | h1
                      · exact hb.2.2 (h1.trans e)
                      · have h2 := hb.1.2
                        simp at e
                        omega)
                    refine x_next ⟨.inr (by kernel_rfl), ?_⟩
                    refine x_done (by kernel_rfl) ?_
                    first
                    | exact ⟨_, rfl, dropF ov.fields[i].1 l, q45, rs45, hs3, hs4, hs5, hs31, hs32, hs33, by unfold stepF; rw [if_pos hc40], cx.drop 1, hE⟩
                    | exact ⟨_, rfl, setF ov.fields[i].1 u l, v, rs, hs3, hs4, hs5, hs31, hs32, hs33, by unfold stepF putF; rw [if_neg hc40, if_pos hc76, hu0], by rw [show (setF ov.fields[i].1 u l).length = l.length by simp [setF]]; exact cx.drop 2, hrows⟩
                    | (refine ⟨_, rfl, l ++ [(ov.fields[i].1, u)], .slice (some ⟨vg5, 0, none⟩) (l.length + 1) vc5, rs ++ [.string ov.fields[i].1 :: vrow u.sc ubs uls ufs], hs3, hs4, hs5, hs31, hs32, hs33, ?_, ?_, ?_⟩
                       · unfold stepF putF
                         rw [if_neg hc40, if_neg (by rw [hnf]; decide), hu0]
                       · have hfl := flat_snoc (rs := rs) (z := [.string ByteArray.empty, .int .i64 0, .bool false, .bool false, .string ByteArray.empty, .int .i64 0, .int .i64 0, .int .i64 0, .int .i64 0, .int .i64 0, .string ByteArray.empty, .slice none 0 0, .slice none 0 0, .slice none 0 0]) (l := .string ov.fields[i].1 :: vrow u.sc ubs uls ufs) hlen14 rfl (show 0 + l.length * 14 = l.length * 14 by omega)
                         rw [← hfl, List.length_append]
                         exact cx.drop 3
                       · refine RowsF.snoc _ _ (RowsF.mono ?_ hK.kp _ _ hrows) (RepV.mono ?_ hK.kp _ _ hu)
                         · exact Dn.step hK.sz hm0 hnw85
                         · exact Dn.step hK.sz hm0 hnw85)
              · skip
                refine s_val rfl rfl (v_fa fa33_7 rfl hs5) ?_
                refine x_next ⟨.inr (by kernel_rfl), ?_⟩
                refine x_two (i := 9) (j := 12) (by kernel_rfl) rfl rfl ?_ ?_
                · skip
                  refine s_val rfl rfl (v_ia Try.underlying31 sz77 rfl rfl rfl (by omega) (by show (l.length : Int) < ((l.length + 1 : Nat) : Int); omega)) ?_
                  refine x_next ⟨.inr (by kernel_rfl), ?_⟩
                  refine x_two (i := 10) (j := 12) (by kernel_rfl) rfl rfl ?_ ?_
                  · skip
                    refine s_storeRow (l := .string ov.fields[i].1 :: vrow u.sc ubs uls ufs) cx rfl rfl rfl rfl rfl sz77 (by show 0 + l.length * 14 + 14 ≤ (l.length + 1) * 14; omega) (by exact hu.one) ?_; intro w cx hgs10 hsz10
                    replace hK := hK.grown hgs10 (fun b hb e => by
                      rcases hnw85 vg5 rfl with h1 | h1
                      · exact hb.2.2 (h1.trans e)
                      · have h2 := hb.1.2
                        simp at e
                        omega)
                    refine x_next ⟨.inr (by kernel_rfl), ?_⟩
                    refine x_one (i := 12) (by kernel_rfl) rfl ?_
                    refine s_store1G cx 3 rfl rfl rfl rfl rfl rfl rfl rfl rfl ?_; intro w cx hgs12
                    replace hK := hK.dnId hgs12 (by simp)
                    refine x_next ⟨.inr (by kernel_rfl), ?_⟩
                    refine x_done (by kernel_rfl) ?_
                    first
                    | exact ⟨_, rfl, dropF ov.fields[i].1 l, q45, rs45, hs3, hs4, hs5, hs31, hs32, hs33, by unfold stepF; rw [if_pos hc40], cx.drop 1, hE⟩
                    | exact ⟨_, rfl, setF ov.fields[i].1 u l, v, rs, hs3, hs4, hs5, hs31, hs32, hs33, by unfold stepF putF; rw [if_neg hc40, if_pos hc76, hu0], by rw [show (setF ov.fields[i].1 u l).length = l.length by simp [setF]]; exact cx.drop 2, hrows⟩
                    | (refine ⟨_, rfl, l ++ [(ov.fields[i].1, u)], .slice (some ⟨vg5, 0, none⟩) (l.length + 1) vc5, rs ++ [.string ov.fields[i].1 :: vrow u.sc ubs uls ufs], hs3, hs4, hs5, hs31, hs32, hs33, ?_, ?_, ?_⟩
                       · unfold stepF putF
                         rw [if_neg hc40, if_neg (by rw [hnf]; decide), hu0]
                       · have hfl := flat_snoc (rs := rs) (z := [.string ByteArray.empty, .int .i64 0, .bool false, .bool false, .string ByteArray.empty, .int .i64 0, .int .i64 0, .int .i64 0, .int .i64 0, .int .i64 0, .string ByteArray.empty, .slice none 0 0, .slice none 0 0, .slice none 0 0]) (l := .string ov.fields[i].1 :: vrow u.sc ubs uls ufs) hlen14 rfl (show 0 + l.length * 14 = l.length * 14 by omega)
                         rw [← hfl, List.length_append]
                         exact cx.drop 3
                       · refine RowsF.snoc _ _ (RowsF.mono ?_ hK.kp _ _ hrows) (RepV.mono ?_ hK.kp _ _ hu)
                         · exact Dn.step hK.sz hm0 hnw85
                         · exact Dn.step hK.sz hm0 hnw85)
                  · skip
                    refine s_store1G cx 3 rfl rfl rfl rfl rfl rfl rfl rfl rfl ?_; intro w cx hgs12
                    replace hK := hK.dnId hgs12 (by simp)
                    refine x_next ⟨.inr (by kernel_rfl), ?_⟩
                    refine x_one (i := 10) (by kernel_rfl) rfl ?_
                    refine s_storeRow (l := .string ov.fields[i].1 :: vrow u.sc ubs uls ufs) cx rfl rfl rfl rfl rfl sz77 (by show 0 + l.length * 14 + 14 ≤ (l.length + 1) * 14; omega) (by exact hu.one) ?_; intro w cx hgs10 hsz10
                    replace hK := hK.grown hgs10 (fun b hb e => by
                      rcases hnw85 vg5 rfl with h1 | h1
                      · exact hb.2.2 (h1.trans e)
                      · have h2 := hb.1.2
                        simp at e
                        omega)
                    refine x_next ⟨.inr (by kernel_rfl), ?_⟩
                    refine x_done (by kernel_rfl) ?_
                    first
                    | exact ⟨_, rfl, dropF ov.fields[i].1 l, q45, rs45, hs3, hs4, hs5, hs31, hs32, hs33, by unfold stepF; rw [if_pos hc40], cx.drop 1, hE⟩
                    | exact ⟨_, rfl, setF ov.fields[i].1 u l, v, rs, hs3, hs4, hs5, hs31, hs32, hs33, by unfold stepF putF; rw [if_neg hc40, if_pos hc76, hu0], by rw [show (setF ov.fields[i].1 u l).length = l.length by simp [setF]]; exact cx.drop 2, hrows⟩
                    | (refine ⟨_, rfl, l ++ [(ov.fields[i].1, u)], .slice (some ⟨vg5, 0, none⟩) (l.length + 1) vc5, rs ++ [.string ov.fields[i].1 :: vrow u.sc ubs uls ufs], hs3, hs4, hs5, hs31, hs32, hs33, ?_, ?_, ?_⟩
                       · unfold stepF putF
                         rw [if_neg hc40, if_neg (by rw [hnf]; decide), hu0]
                       · have hfl := flat_snoc (rs := rs) (z := [.string ByteArray.empty, .int .i64 0, .bool false, .bool false, .string ByteArray.empty, .int .i64 0, .int .i64 0, .int .i64 0, .int .i64 0, .int .i64 0, .string ByteArray.empty, .slice none 0 0, .slice none 0 0, .slice none 0 0]) (l := .string ov.fields[i].1 :: vrow u.sc ubs uls ufs) hlen14 rfl (show 0 + l.length * 14 = l.length * 14 by omega)
                         rw [← hfl, List.length_append]
                         exact cx.drop 3
                       · refine RowsF.snoc _ _ (RowsF.mono ?_ hK.kp _ _ hrows) (RepV.mono ?_ hK.kp _ _ hu)
                         · exact Dn.step hK.sz hm0 hnw85
                         · exact Dn.step hK.sz hm0 hnw85)
                · skip
                  refine s_store1G cx 3 rfl rfl rfl rfl rfl rfl rfl rfl rfl ?_; intro w cx hgs12
                  replace hK := hK.dnId hgs12 (by simp)
                  refine x_next ⟨.inr (by kernel_rfl), ?_⟩
                  refine x_one (i := 9) (by kernel_rfl) rfl ?_
                  refine s_val rfl rfl (v_ia Try.underlying31 sz77 rfl rfl rfl (by omega) (by show (l.length : Int) < ((l.length + 1 : Nat) : Int); omega)) ?_
                  refine x_next ⟨.inr (by kernel_rfl), ?_⟩
                  refine x_one (i := 10) (by kernel_rfl) rfl ?_
                  refine s_storeRow (l := .string ov.fields[i].1 :: vrow u.sc ubs uls ufs) cx rfl rfl rfl rfl rfl sz77 (by show 0 + l.length * 14 + 14 ≤ (l.length + 1) * 14; omega) (by exact hu.one) ?_; intro w cx hgs10 hsz10
                  replace hK := hK.grown hgs10 (fun b hb e => by
                    rcases hnw85 vg5 rfl with h1 | h1
                    · exact hb.2.2 (h1.trans e)
                    · have h2 := hb.1.2
                      simp at e
                      omega)
                  refine x_next ⟨.inr (by kernel_rfl), ?_⟩
                  refine x_done (by kernel_rfl) ?_
                  first
                  | exact ⟨_, rfl, dropF ov.fields[i].1 l, q45, rs45, hs3, hs4, hs5, hs31, hs32, hs33, by unfold stepF; rw [if_pos hc40], cx.drop 1, hE⟩
                  | exact ⟨_, rfl, setF ov.fields[i].1 u l, v, rs, hs3, hs4, hs5, hs31, hs32, hs33, by unfold stepF putF; rw [if_neg hc40, if_pos hc76, hu0], by rw [show (setF ov.fields[i].1 u l).length = l.length by simp [setF]]; exact cx.drop 2, hrows⟩
                  | (refine ⟨_, rfl, l ++ [(ov.fields[i].1, u)], .slice (some ⟨vg5, 0, none⟩) (l.length + 1) vc5, rs ++ [.string ov.fields[i].1 :: vrow u.sc ubs uls ufs], hs3, hs4, hs5, hs31, hs32, hs33, ?_, ?_, ?_⟩
                     · unfold stepF putF
                       rw [if_neg hc40, if_neg (by rw [hnf]; decide), hu0]
                     · have hfl := flat_snoc (rs := rs) (z := [.string ByteArray.empty, .int .i64 0, .bool false, .bool false, .string ByteArray.empty, .int .i64 0, .int .i64 0, .int .i64 0, .int .i64 0, .int .i64 0, .string ByteArray.empty, .slice none 0 0, .slice none 0 0, .slice none 0 0]) (l := .string ov.fields[i].1 :: vrow u.sc ubs uls ufs) hlen14 rfl (show 0 + l.length * 14 = l.length * 14 by omega)
                       rw [← hfl, List.length_append]
                       exact cx.drop 3
                     · refine RowsF.snoc _ _ (RowsF.mono ?_ hK.kp _ _ hrows) (RepV.mono ?_ hK.kp _ _ hu)
                       · exact Dn.step hK.sz hm0 hnw85
                       · exact Dn.step hK.sz hm0 hnw85)
            · skip
              skip
              replace hc76 : (hasF ov.fields[i].1 l).isSome = true := by simpa using hc76
              refine wp_skip ?_
              first
              | exact ⟨_, rfl, dropF ov.fields[i].1 l, q45, rs45, hs3, hs4, hs5, hs31, hs32, hs33, by unfold stepF; rw [if_pos hc40], cx.drop 1, hE⟩
              | exact ⟨_, rfl, setF ov.fields[i].1 u l, v, rs, hs3, hs4, hs5, hs31, hs32, hs33, by unfold stepF putF; rw [if_neg hc40, if_pos hc76, hu0], by rw [show (setF ov.fields[i].1 u l).length = l.length by simp [setF]]; exact cx.drop 2, hrows⟩
              | (refine ⟨_, rfl, l ++ [(ov.fields[i].1, u)], .slice (some ⟨vg5, 0, none⟩) (l.length + 1) vc5, rs ++ [.string ov.fields[i].1 :: vrow u.sc ubs uls ufs], hs3, hs4, hs5, hs31, hs32, hs33, ?_, ?_, ?_⟩
                 · unfold stepF putF
                   rw [if_neg hc40, if_neg (by rw [hnf]; decide), hu0]
                 · have hfl := flat_snoc (rs := rs) (z := [.string ByteArray.empty, .int .i64 0, .bool false, .bool false, .string ByteArray.empty, .int .i64 0, .int .i64 0, .int .i64 0, .int .i64 0, .int .i64 0, .string ByteArray.empty, .slice none 0 0, .slice none 0 0, .slice none 0 0]) (l := .string ov.fields[i].1 :: vrow u.sc ubs uls ufs) hlen14 rfl (show 0 + l.length * 14 = l.length * 14 by omega)
                   rw [← hfl, List.length_append]
                   exact cx.drop 3
                 · refine RowsF.snoc _ _ (RowsF.mono ?_ hK.kp _ _ hrows) (RepV.mono ?_ hK.kp _ _ hu)
                   · exact Dn.step hK.sz hm0 hnw85
                   · exact Dn.step hK.sz hm0 hnw85)
      intro f w hJ
      obtain ⟨l', v', rs', hs3, hs4, hs5, hs31, hs32, hs33, hl', cx, hrows'⟩ := hJ
      refine wp_region_lit ?_
      refine s_val rfl rfl (v_add rfl hs33 rfl (by omega) (by omega)) ?_
      refine s_val rfl rfl (v_move rfl rfl) ?_
      refine wpList_nil ?_
      exact ⟨gk7 - 1, _, by omega, rfl, i + 1, l', v', rs', by omega, hs3, hs4, hs5, hs31, hs32, rfl, by rw [take_fold (by omega), ← hl]; exact hl', cx, hrows'⟩
    · skip
      try simp only [Bool.and_eq_true, Bool.or_eq_true, Bool.and_eq_false_iff, Bool.or_eq_false_iff, Bool.not_eq_true', Bool.not_eq_false', decide_eq_true_eq, decide_eq_false_iff_not, beq_iff_eq, beq_eq_false_iff_ne, bne_iff_ne, bne_eq_false_iff_eq, ne_eq, Classical.not_not] at hc34
      refine wp_exit ?_
      refine wp_seq ?_
      refine wp_region_lit ?_
      refine s_val rfl rfl (v_load rfl hs5 Try.underlying33 rfl sz33 (l := vrow (zk 7) bs ls v) (cx.row 0 rfl) rfl) ?_
      have hK := Kp.dn w0 w [b3, b4, b5] v
      refine s_storeAllG cx 1 rfl rfl rfl hs4 rfl rfl sz33 rfl (vrow_one (hbA (fun _ => True) w).one (hlA (fun _ => True) w).one (own_one cx.head)) ?_; intro w cx hg4
      replace hK := hK.dnId hg4 (by simp)
      refine wpList_nil ?_
      refine wp_ret ?_
      have hi : i = ov.fields.length := by omega
      subst hi
      rw [List.take_of_length_le (Nat.le_refl _)] at hl
      refine ret_cell Try.results50 hs4 (cx.at 1 rfl) Try.underlying33 rfl sz33 ⟨cx.ext, ?_⟩
      rw [ovl_map h7, ← hl]
      exact ⟨bs, ls, v, rs, rfl, hbA _ _, hlA _ _, cx.head, RowsF.mono (fun b hb => ⟨⟨hb.1.1, Nat.lt_of_lt_of_le hb.1.2 hK.sz⟩, hb.2.2⟩) hK.kp _ _ hrows⟩
end Go.Proofs.Ytmkihcdcgkdilaa
