/-
  Contract: Overlay of the reference.
-/
import Derived.Test.YtmkihcdcgkdilaaCh
import Derived.Test.YtmkihcdcgkdilaaVk
namespace Go.Proofs.Ytmkihcdcgkdilaa
open Go Go.Dk Go.RowKit
set_option linter.unusedSimpArgs false
set_option linter.unusedVariables false
attribute [local irreducible] Go.wpList Go.Code.wp Go.bodyPost Go.wpStill
set_option maxRecDepth 10000 in
set_option maxHeartbeats 3200000 in
theorem c23 : ∀ (e mb mo : Nat) (bv ov : V) (rb r : List Value) (A : Nat → Prop) (w0 : World), Gd e mb bv → Gd e mo ov → e ≤ 48 → mb + mo ≤ 1000000 → (∀ b, A b → b < w0.heap.size) → RepV A w0 bv rb → RepV A w0 ov r → Fc Try.prog 23 [.agg rb.toArray, .agg r.toArray] w0 (fun y w' => ∃ ry, y = .agg ry.toArray ∧ RepV (fun b => A b ∨ Fr w0 w' b) w' (ovl e bv ov) ry) := by
  intro e
  induction e with
  | zero => intro mb mo bv ov rb r A w0 hgb; exact hgb.ok.elim
  | succ e ih =>
  intro mb mo bv ov rb r A w0 hgb hgo he hm hA hvb hvo
  have hl0 : (if bv.sc.kind = 7 then bv.fields else []) = bv.fields := by
    split
    · rfl
    · rename_i h
      exact (List.eq_nil_of_length_eq_zero (hgb.ok.1.fields h)).symm
  have hbl := (hgb.nw 1).1
  have h0good : ∀ kv ∈ bv.fields, GdF e mb kv := fun kv hk => hgb.field hk
  obtain ⟨pbs, pls, pfs, rfl, _, _, hpf⟩ := hvb.open
  obtain ⟨rs0, hrs0, hsrc, hlen0, hone0⟩ := src_fields hpf
  obtain ⟨obs, ols, ofs, rfl, hobs, hols, hofs⟩ := hvo.open
  obtain ⟨fb, fo, hsl, hreps⟩ := hofs
  obtain ⟨fa, fc, rfl, hfa⟩ := hsl.form
  have hfget := fun i kv h => RepFs.get ov.fields fo i kv hreps h
  refine ret_enter Try.func23 rfl Try.ntmps23 rfl ?_
  have cx := Ctx.start w0
  refine wp_seq ?_
  refine wp_region_lit ?_
  refine s_box cx rfl rfl rfl rfl rfl ?_; intro b2 w cx hb2 hw2
  refine s_box cx rfl rfl rfl rfl rfl ?_; intro b3 w cx hb3 hw3
  refine s_alloc cx z33 rfl rfl rfl ?_; intro b4 w cx hb4 hw4
  refine wpList_nil ?_
  refine wp_seq ?_
  refine wp_seq ?_
  refine wp_region_lit ?_
  refine s_val rfl rfl (v_fa fa33_0 rfl rfl) ?_
  refine s_val rfl rfl (v_load1 rfl rfl Try.underlying3 rfl (cx.cell 1 rfl rfl)) ?_
  refine s_val rfl rfl (v_cmp rfl rfl rfl rfl) ?_
  refine wpList_nil ?_
  refine c_split rfl (fun hc11 => ?_) (fun hc11 => ?_)
  · skip
    try simp only [Bool.and_eq_true, Bool.or_eq_true, Bool.and_eq_false_iff, Bool.or_eq_false_iff, Bool.not_eq_true', Bool.not_eq_false', decide_eq_true_eq, decide_eq_false_iff_not, beq_iff_eq, beq_eq_false_iff_ne, bne_iff_ne, bne_eq_false_iff_eq, ne_eq, Classical.not_not] at hc11
    refine wp_seq ?_
    refine wp_region_lit ?_
    refine s_val rfl rfl (v_load rfl rfl Try.underlying33 rfl sz33 (cx.row 1 rfl) rfl) ?_
    refine s_storeAllG cx 0 rfl rfl rfl rfl rfl rfl sz33 rfl hvo.one ?_; intro w cx hg4
    refine wpList_nil ?_
    refine wp_ret ?_
    refine ret_cell Try.results23 rfl (cx.at 0 rfl) Try.underlying33 rfl sz33 ⟨cx.ext, _, rfl, ?_⟩
    rw [ovl_else hc11]
    exact RepV.mono (fun b hb => .inl hb) (fun b hb => cx.ext.block b (hA b hb)) _ _ hvo
  · skip
    try simp only [Bool.and_eq_true, Bool.or_eq_true, Bool.and_eq_false_iff, Bool.or_eq_false_iff, Bool.not_eq_true', Bool.not_eq_false', decide_eq_true_eq, decide_eq_false_iff_not, beq_iff_eq, beq_eq_false_iff_ne, bne_iff_ne, bne_eq_false_iff_eq, ne_eq, Classical.not_not] at hc11
    have h7 : ov.sc.kind = 7 := hc11
    refine wp_skip ?_
    refine wp_seq ?_
    refine wp_region_lit ?_
    refine s_bsl0 cx Try.underlying31 sz77 rfl rfl rfl ?_; intro b13 w cx hb13 hw13
    refine s_val rfl rfl (v_fa fa33_7 rfl rfl) ?_
    refine s_val rfl rfl (v_load1 rfl rfl Try.underlying31 rfl (cx.cell 3 rfl rfl)) ?_
    replace cx := cx.toRow (k := 0) (size := 14) (cs := []) rfl (by decide)
    refine s_appendS cx ei77 Try.underlying31 rfl rfl rfl rfl rfl (hsrc.up cx.ext) hlen0 hone0 (by omega) ?_; intro v16 w cx hgr16 hnw16
    have hn16 : 0 + bv.fields.length = bv.fields.length := by omega
    rw [hn16] at cx
    refine s_val rfl rfl (v_assign rfl rfl) ?_
    refine wpList_nil ?_
    refine wp_seq ?_
    refine wp_seq ?_
    refine wp_region_lit ?_
    refine s_val rfl rfl (v_assign rfl rfl) ?_
    refine wpList_nil ?_
    refine wp_block ?_
    refine w_loop (fun k f w1 => ∃ (i : Nat) (l : List (ByteArray × V)) (v : Value) (rs : List (List Value)), k + i = ov.fields.length ∧ f 2 = .pointer (some ⟨b2, 0, none⟩) ∧ f 3 = .pointer (some ⟨b3, 0, none⟩) ∧ f 4 = .pointer (some ⟨b4, 0, none⟩) ∧ f 6 = .int .i64 i ∧ f 5 = v ∧ l = (ov.fields.take i).foldl (stepF e) bv.fields ∧ Cxr w0 w1 [(b4, .cells ([.int .i64 0, .bool false, .bool false, .string ByteArray.empty, .int .i64 0, .int .i64 0, .int .i64 0, .int .i64 0, .int .i64 0, .string ByteArray.empty, .slice none 0 0, .slice none 0 0, .slice none 0 0] : List Value).toArray 33), (b3, .cells (vrow ov.sc obs ols (.slice fa ov.fields.length fc)).toArray 33), (b2, .cells (vrow bv.sc pbs pls pfs).toArray 33)] [⟨77, 14, v, l.length, rs.flatten⟩] ∧ RowsF (Da A w0 w1 [b2, b3, b4] v) w1 l rs) (ov.fields.length) ?_ ?_
    · skip
      exact ⟨0, _, v16, rs0, by omega, rfl, rfl, rfl, rfl, rfl, rfl, cx, RowsF.mono (fun b hb => .inl hb) (fun b hb => cx.ext.block b (hA b hb)) _ _ hrs0⟩
    intro gk5 f w hJ
    obtain ⟨i, l, v, rs, hki, hs2, hs3, hs4, hs6, hs5, hl, cx, hrows⟩ := hJ
    obtain ⟨wk, rfl⟩ : ∃ x, x = w := ⟨_, rfl⟩
    refine wp_seq ?_
    refine wp_seq ?_
    refine wp_region_lit ?_
    refine s_val rfl rfl (v_move rfl hs6) ?_
    refine s_val rfl rfl (v_fa fa33_7 rfl hs3) ?_
    refine s_val rfl rfl (v_load1 rfl rfl Try.underlying31 rfl (cx.cell 1 rfl rfl)) ?_
    refine s_val rfl rfl (v_lenSlice rfl rfl Try.underlying31) ?_
    refine s_val rfl rfl (v_cmp rfl rfl rfl rfl) ?_
    refine wpList_nil ?_
    refine c_split rfl (fun hc21 => ?_) (fun hc21 => ?_)
    · skip
      try simp only [Bool.and_eq_true, Bool.or_eq_true, Bool.and_eq_false_iff, Bool.or_eq_false_iff, Bool.not_eq_true', Bool.not_eq_false', decide_eq_true_eq, decide_eq_false_iff_not, beq_iff_eq, beq_eq_false_iff_ne, bne_iff_ne, bne_eq_false_iff_eq, ne_eq, Classical.not_not] at hc21
      have hfa1 := hfa (by omega)
      obtain ⟨r, hr, hrv⟩ := hfget i ov.fields[i] (List.getElem?_eq_getElem (by omega))
      obtain ⟨ebs, els, efs, rfl, _⟩ := hrv.open
      have hg := hgo.field (List.getElem_mem (show i < ov.fields.length by omega))
      obtain ⟨e1, he1, hLay⟩ := (gd_ovl (e + 1) (e + 1) mb mo bv ov hgb hgo (by omega) (by omega)).2 i (by omega) e rfl h7
      obtain rfl : e = e1 := by omega
      rw [hl0, ← hl] at hLay
      have hllen : l.length ≤ mb + i := by have := hLay.len; omega
      have hon := (hgo.nw 1).1
      have hk0 := cx.ext.size
      have hK := Kp.da hA cx.ext.size [b2, b3, b4] v
      refine wp_skip ?_
      refine w_cut (fun f w1 => ∃ (l' : List (ByteArray × V)) (v : Value) (rs : List (List Value)), f 2 = .pointer (some ⟨b2, 0, none⟩) ∧ f 3 = .pointer (some ⟨b3, 0, none⟩) ∧ f 4 = .pointer (some ⟨b4, 0, none⟩) ∧ f 6 = .int .i64 i ∧ f 5 = v ∧ l' = stepF e l ov.fields[i] ∧ Cxr w0 w1 [(b4, .cells ([.int .i64 0, .bool false, .bool false, .string ByteArray.empty, .int .i64 0, .int .i64 0, .int .i64 0, .int .i64 0, .int .i64 0, .string ByteArray.empty, .slice none 0 0, .slice none 0 0, .slice none 0 0] : List Value).toArray 33), (b3, .cells (vrow ov.sc obs ols (.slice fa ov.fields.length fc)).toArray 33), (b2, .cells (vrow bv.sc pbs pls pfs).toArray 33)] [⟨77, 14, v, l'.length, rs.flatten⟩] ∧ RowsF (Da A w0 w1 [b2, b3, b4] v) w1 l' rs) ?_ ?_
      · skip
        refine wp_block ?_
        refine wp_seq ?_
        refine wp_region_lit ?_
        have hfa2 := congrArg (fun x => Value.slice x ov.fields.length fc) hfa1
        refine s_val rfl rfl (v_fa fa33_7 rfl hs3) ?_
        refine s_val rfl rfl (v_load1 rfl rfl Try.underlying31 rfl (cx.cell 1 rfl rfl)) ?_
        refine s_val rfl rfl (v_move rfl hs6) ?_
        refine s_val rfl rfl (v_ia Try.underlying31 sz77 rfl hfa2 rfl (by omega) (by omega)) ?_
        refine s_val rfl rfl (v_load rfl rfl Try.underlying77 rfl sz77 (hr.up cx.ext) rfl) ?_
        refine s_alloc cx z77 rfl rfl rfl ?_; intro b7 w cx hb7 hw7
        have hl7 := Nat.le_trans hK.sz (Nat.le_of_eq hb7)
        replace hK := hK.below hw7
        refine s_storeAllG cx 0 rfl rfl rfl rfl rfl rfl sz77 rfl (by exact hrv.one) ?_; intro w cx hg7
        replace hK := hK.later hg7 hl7
        refine wpList_nil ?_
        refine wp_seq ?_
        refine wp_region_lit ?_
        refine s_val rfl rfl (v_move rfl hs5) ?_
        refine s_val rfl rfl (v_fa fa77_0 rfl rfl) ?_
        refine s_val rfl rfl (v_load1 rfl rfl Try.underlying9 rfl (cx.cell 0 rfl rfl)) ?_
        have hrowsC := RowsF.mono (Da.step (A := A) (w0 := w0) (ids := [b2, b3, b4]) hK.sz (Nat.le_refl _) (fun q hq => .inl hq)) hK.kp _ _ hrows
        have hF := fld_of_row cx.head rfl hrowsC (fun _ _ => rfl)
        refine s_fnI cx (c51 l v ov.fields[i].1 _ (RepF.mono (by
          rintro b (hb | hb)
          · exact Da.lt hA cx.ext.size b hb
          · exact (Made_lt cx.head b hb).2) (fun _ _ => rfl) hF) (by omega)) Try.func51 rfl rfl rfl rfl rfl rfl ?_; intro q32 w cx hw32 hp32
        replace hK := hK.below hw32
        refine s_val rfl rfl (v_assign rfl rfl) ?_
        refine wpList_nil ?_
        refine wp_block ?_
        refine wp_seq ?_
        refine wp_region_lit ?_
        refine s_val rfl rfl (v_fa fa77_1 rfl rfl) ?_
        refine s_val rfl rfl (v_fa fa33_0 rfl rfl) ?_
        refine s_val rfl rfl (v_load1 rfl rfl Try.underlying3 rfl (cx.cell 0 rfl rfl)) ?_
        refine s_val rfl rfl (v_cmp rfl rfl rfl rfl) ?_
        refine s_val rfl rfl (v_move rfl rfl) ?_
        refine s_gval rfl rfl rfl (by first | exact w_tt rfl | exact w_gt rfl) (fun hc => v_move rfl (by first | exact gve hc rfl | exact gve (and_l hc) rfl | exact gve (and_l (and_l hc)) rfl | rfl)) ?_
        refine s_gval rfl rfl rfl (by first | exact w_tt rfl | exact w_gt rfl) (fun hc => v_cmp rfl (by first | exact gve hc rfl | exact gve (and_l hc) rfl | exact gve (and_l (and_l hc)) rfl | rfl) rfl rfl) ?_
        refine s_val rfl rfl (v_and rfl rfl rfl rfl) ?_
        refine s_val rfl rfl (v_assign rfl rfl) ?_
        refine wpList_nil ?_
        refine c_split rfl (fun hc43 => ?_) (fun hc43 => ?_)
        · skip
          try simp only [Bool.and_eq_true, Bool.or_eq_true, Bool.and_eq_false_iff, Bool.or_eq_false_iff, Bool.not_eq_true', Bool.not_eq_false', decide_eq_true_eq, decide_eq_false_iff_not, beq_iff_eq, beq_eq_false_iff_ne, bne_iff_ne, bne_eq_false_iff_eq, ne_eq, Classical.not_not] at hc43
          obtain ⟨hc43k, hc43m⟩ := hc43
          rcases hp32 with ⟨j, hj, rfl, hje, hjn⟩ | ⟨rfl, _⟩
          rotate_left
          · omega
          refine wp_region_lit ?_
          refine s_val rfl rfl (v_move rfl hs5) ?_
          refine s_val rfl rfl (v_move rfl rfl) ?_
          have hrowsC := RowsF.mono (Da.step (A := A) (w0 := w0) (ids := [b2, b3, b4]) hK.sz (Nat.le_refl _) (fun q hq => .inl hq)) hK.kp _ _ hrows
          have hF := fld_of_row cx.head rfl hrowsC (fun _ _ => rfl)
          have cxc := cx
          refine s_fn cx (c52 _ l v j _ (by
            rintro b (hb | hb)
            · exact Da.lt hA cx.ext.size b hb
            · exact (Made_lt cx.head b hb).2) hF (by omega) hj) Try.func52 rfl rfl rfl rfl rfl rfl ?_; intro q54 w cx hw54 hp54
          obtain ⟨rs54, hro, hrs54⟩ := hp54
          replace cx := (cxc.dropR 1).callRow hw54 hro
          have hE := RowsF.mono (Da.swap cxc (by intro i hi; rcases (by simpa using hi : i = b2 ∨ i = b3 ∨ i = b4) with rfl | rfl | rfl <;> simp) hw54.size (fun q hq => (Made_lt hro q hq).1)) (fun _ _ => rfl) _ _ hrs54
          refine s_val rfl rfl (v_assign rfl rfl) ?_
          refine wpList_nil ?_
          first
          | exact ⟨_, rfl, l.eraseIdx j, q54, rs54, hs2, hs3, hs4, hs6, rfl, by unfold stepF; rw [if_pos hc43k, erase_drop hLay.nd hj hje], cx.drop 1, hE⟩
          | (refine ⟨_, rfl, l.set j (l[j].1, ovl e ((hasF ov.fields[i].1 l).getD nulV) ov.fields[i].2), v, rs.set j (.string l[j].1 :: r72), hs2, hs3, hs4, hs6, hs5, ?_, ?_, ?_⟩
             · unfold stepF putF
               rw [if_neg hc55, if_pos (by rw [hh]; rfl), setF_place hLay.nd hj hje]
             · have hfs := flat_set rs j (.string l[j].1) _ r72 (RowsF.lens _ _ hrows) hrj hm72.len
               rw [Int.toNat_natCast, Nat.zero_add, hfs] at cx
               rw [List.length_set]
               exact cx.drop 1
             · refine RowsF.set (RepV.mono ?_ hKn.kp _ _ (by rw [hh]; exact hm72)) _ _ j l[j] (RowsF.mono ?_ hK.kp _ _ hrows) (List.getElem?_eq_getElem hj)
               · exact Da.res hA cxc.ext.size hs0 hKn.sz hcc (fun i hi => (cxc.lts i (by rcases (by simpa using hi : i = b2 ∨ i = b3 ∨ i = b4) with rfl | rfl | rfl <;> simp)).2) (fun q hq => (Made_lt cxc.head q hq).2) (Nat.le_refl _) (fun q hq => .inl hq)
               · exact Da.step hK.sz (Nat.le_refl _) (fun q hq => .inl hq))
          | (refine ⟨_, rfl, l ++ [(ov.fields[i].1, ovl e ((hasF ov.fields[i].1 l).getD nulV) ov.fields[i].2)], v42, rs ++ [.string ov.fields[i].1 :: vrow (ovl e nulV ov.fields[i].2).sc ubs uls ufs], hs2, hs3, hs4, hs6, rfl, ?_, ?_, ?_⟩
             · unfold stepF putF
               rw [if_neg hc55, if_neg (by rw [hh]; decide)]
             · rw [List.length_append]
               simpa using cx.drop 2
             · rw [hh]
               refine RowsF.snoc _ _ (RowsF.mono ?_ hK.kp _ _ hrows) (RepV.mono ?_ hKn.kp _ _ hm39)
               · exact Da.step hK.sz hm0 hnw42
               · exact Da.res hA cxc.ext.size hs0 hKn.sz hcc (fun i hi => (cxc.lts i (by rcases (by simpa using hi : i = b2 ∨ i = b3 ∨ i = b4) with rfl | rfl | rfl <;> simp)).2) (fun q hq => (Made_lt cxc.head q hq).2) hm1 hnw42)
          | (rcases hp32 with ⟨j, hj, rfl, hje, hjn⟩ | ⟨rfl, hjn⟩
             · exfalso
               omega
             · exact ⟨_, rfl, l, v, rs, hs2, hs3, hs4, hs6, hs5, by unfold stepF; rw [if_pos hc55, dropF_none hjn], cx.drop 1, RowsF.mono (Da.step hK.sz (Nat.le_refl _) (fun q hq => .inl hq)) hK.kp _ _ hrows⟩)
        · skip
          try simp only [Bool.and_eq_true, Bool.or_eq_true, Bool.and_eq_false_iff, Bool.or_eq_false_iff, Bool.not_eq_true', Bool.not_eq_false', decide_eq_true_eq, decide_eq_false_iff_not, beq_iff_eq, beq_eq_false_iff_ne, bne_iff_ne, bne_eq_false_iff_eq, ne_eq, Classical.not_not] at hc43
          refine wp_seq ?_
          refine wp_region_lit ?_
          refine s_val rfl rfl (v_fa fa77_1 rfl rfl) ?_
          refine s_val rfl rfl (v_fa fa33_0 rfl rfl) ?_
          refine s_val rfl rfl (v_load1 rfl rfl Try.underlying3 rfl (cx.cell 0 rfl rfl)) ?_
          refine s_val rfl rfl (v_cmp rfl rfl rfl rfl) ?_
          refine s_val rfl rfl (v_assign rfl rfl) ?_
          refine wpList_nil ?_
          refine c_split rfl (fun hc55 => ?_) (fun hc55 => ?_)
          · skip
            try simp only [Bool.and_eq_true, Bool.or_eq_true, Bool.and_eq_false_iff, Bool.or_eq_false_iff, Bool.not_eq_true', Bool.not_eq_false', decide_eq_true_eq, decide_eq_false_iff_not, beq_iff_eq, beq_eq_false_iff_ne, bne_iff_ne, bne_eq_false_iff_eq, ne_eq, Classical.not_not] at hc55
            refine wp_skip ?_
            first
            | exact ⟨_, rfl, l.eraseIdx j, q54, rs54, hs2, hs3, hs4, hs6, rfl, by unfold stepF; rw [if_pos hc43k, erase_drop hLay.nd hj hje], cx.drop 1, hE⟩
            | (refine ⟨_, rfl, l.set j (l[j].1, ovl e ((hasF ov.fields[i].1 l).getD nulV) ov.fields[i].2), v, rs.set j (.string l[j].1 :: r72), hs2, hs3, hs4, hs6, hs5, ?_, ?_, ?_⟩
               · unfold stepF putF
                 rw [if_neg hc55, if_pos (by rw [hh]; rfl), setF_place hLay.nd hj hje]
               · have hfs := flat_set rs j (.string l[j].1) _ r72 (RowsF.lens _ _ hrows) hrj hm72.len
                 rw [Int.toNat_natCast, Nat.zero_add, hfs] at cx
                 rw [List.length_set]
                 exact cx.drop 1
               · refine RowsF.set (RepV.mono ?_ hKn.kp _ _ (by rw [hh]; exact hm72)) _ _ j l[j] (RowsF.mono ?_ hK.kp _ _ hrows) (List.getElem?_eq_getElem hj)
                 · exact Da.res hA cxc.ext.size hs0 hKn.sz hcc (fun i hi => (cxc.lts i (by rcases (by simpa using hi : i = b2 ∨ i = b3 ∨ i = b4) with rfl | rfl | rfl <;> simp)).2) (fun q hq => (Made_lt cxc.head q hq).2) (Nat.le_refl _) (fun q hq => .inl hq)
                 · exact Da.step hK.sz (Nat.le_refl _) (fun q hq => .inl hq))
            | (refine ⟨_, rfl, l ++ [(ov.fields[i].1, ovl e ((hasF ov.fields[i].1 l).getD nulV) ov.fields[i].2)], v42, rs ++ [.string ov.fields[i].1 :: vrow (ovl e nulV ov.fields[i].2).sc ubs uls ufs], hs2, hs3, hs4, hs6, rfl, ?_, ?_, ?_⟩
               · unfold stepF putF
                 rw [if_neg hc55, if_neg (by rw [hh]; decide)]
               · rw [List.length_append]
                 simpa using cx.drop 2
               · rw [hh]
                 refine RowsF.snoc _ _ (RowsF.mono ?_ hK.kp _ _ hrows) (RepV.mono ?_ hKn.kp _ _ hm39)
                 · exact Da.step hK.sz hm0 hnw42
                 · exact Da.res hA cxc.ext.size hs0 hKn.sz hcc (fun i hi => (cxc.lts i (by rcases (by simpa using hi : i = b2 ∨ i = b3 ∨ i = b4) with rfl | rfl | rfl <;> simp)).2) (fun q hq => (Made_lt cxc.head q hq).2) hm1 hnw42)
            | (rcases hp32 with ⟨j, hj, rfl, hje, hjn⟩ | ⟨rfl, hjn⟩
               · exfalso
                 omega
               · exact ⟨_, rfl, l, v, rs, hs2, hs3, hs4, hs6, hs5, by unfold stepF; rw [if_pos hc55, dropF_none hjn], cx.drop 1, RowsF.mono (Da.step hK.sz (Nat.le_refl _) (fun q hq => .inl hq)) hK.kp _ _ hrows⟩)
          · skip
            try simp only [Bool.and_eq_true, Bool.or_eq_true, Bool.and_eq_false_iff, Bool.or_eq_false_iff, Bool.not_eq_true', Bool.not_eq_false', decide_eq_true_eq, decide_eq_false_iff_not, beq_iff_eq, beq_eq_false_iff_ne, bne_iff_ne, bne_eq_false_iff_eq, ne_eq, Classical.not_not] at hc55
            refine wp_seq ?_
            refine wp_region_lit ?_
            refine s_val rfl rfl (v_move rfl rfl) ?_
            refine s_val rfl rfl (v_cmp rfl rfl rfl rfl) ?_
            refine s_val rfl rfl (v_assign rfl rfl) ?_
            refine wpList_nil ?_
            refine c_split rfl (fun hc60 => ?_) (fun hc60 => ?_)
            · skip
              try simp only [Bool.and_eq_true, Bool.or_eq_true, Bool.and_eq_false_iff, Bool.or_eq_false_iff, Bool.not_eq_true', Bool.not_eq_false', decide_eq_true_eq, decide_eq_false_iff_not, beq_iff_eq, beq_eq_false_iff_ne, bne_iff_ne, bne_eq_false_iff_eq, ne_eq, Classical.not_not] at hc60
              rcases hp32 with ⟨j, hj, rfl, hje, hjn⟩ | ⟨rfl, _⟩
              rotate_left
              · omega
              have hh : hasF ov.fields[i].1 l = some l[j].2 := hasF_take hjn hj hje
              obtain ⟨va, vc, hve, hvg⟩ := cx.ownRow
              obtain ⟨vg, hva, hvr⟩ := hvg (by omega)
              subst hva
              obtain ⟨lj, hrj, hvj⟩ := RowsF.at _ rs j l[j] hrows (List.getElem?_eq_getElem hj)
              obtain ⟨jbs, jls, jfs, rfl, _⟩ := hvj.open
              refine w_ord cx (cx.pick1 0 rfl) mixed [(0, 63), (1, 64), (2, 65), (3, 66), (4, 67), (5, 68), (7, 70), (8, 71)] #[true, true, true, true, true, true, false, true, true, false, false, false, false] (by kernel_rfl) (by kernel_rfl) (by kernel_rfl) (by kernel_rfl) ?_
              refine pu_one rfl (wnt_none rfl) (fun w cx => v_move rfl hs5) ?_
              refine pu_one rfl (wnt_none rfl) (fun w cx => v_move rfl rfl) ?_
              refine pu_one rfl (wnt_none rfl) (fun w cx => v_move rfl hs5) ?_
              refine pu_one rfl (wnt_none rfl) (fun w cx => v_move rfl rfl) ?_
              refine pu_one rfl (wnt_none rfl) (fun w cx => v_ia Try.underlying31 sz77 rfl hve rfl (by omega) (by omega)) ?_
              refine pu_one rfl (wnt_none rfl) (fun w cx => v_fa fa77_1 rfl rfl) ?_
              refine pu_one rfl (wnt_none rfl) (fun w cx => v_fa fa77_1 rfl rfl) ?_
              refine pu_one rfl (wnt_none rfl) (fun w cx => v_load rfl rfl Try.underlying33 rfl sz33 ((cx.row 0 rfl).rv 1 rfl) rfl) ?_
              refine pu_nil ?_; intro w cx hwD14
              obtain ⟨va3, vc3, hve3, hvg3⟩ := cx.ownRow
              have hvr3 := hvr.up hwD14
              have hK0 := cx.ext.size
              replace hK := hK.below hwD14
              refine x_one (i := 6) (by kernel_rfl) rfl ?_
              refine s_val rfl rfl (v_load rfl rfl Try.underlying33 rfl sz33 ((RowAt.flat (A := Da A w0 wk [b2, b3, b4] v) (fs := l) hvr3 (RowsF.lens _ _ hrows) hrj).rv 1 rfl) rfl) ?_
              refine x_next ⟨.inl (cx.pick1 0 rfl), ?_⟩
              refine x_one (i := 9) (by kernel_rfl) rfl ?_
              have cxc := cx
              have hgB := hLay.base1 (okd_pos hg.2.ok) h0good (List.getElem?_eq_getElem (show i < ov.fields.length by omega))
              refine s_fn cx (ih mb mo l[j].2 ov.fields[i].2 _ _ (Da A w0 wk [b2, b3, b4] v) _ (by rw [hh] at hgB; exact hgB) hg.2 (by omega) (by omega) (fun b hb => Nat.lt_of_lt_of_le (Da.lt hA hk0 b hb) hK.sz) (RepV.mono (fun _ h => h) hK.kp _ _ hvj) (RepV.mono (fun b hb => .inl hb) (fun b hb => cx.ext.block b (hA b hb)) _ _ hrv)) Try.func23 rfl rfl rfl rfl rfl rfl ?_; intro q72 w cx hw72 hp72
              obtain ⟨r72, rfl, hm72⟩ := hp72
              have hKn := Kp.res (ids := [b2, b3, b4]) (v := v) hA hk0 hK.sz hw72
              have hs0 := hK.sz
              have hcc := hw72.size
              replace hK := hK.below hw72
              refine x_next ⟨.inl (cx.pick1 0 rfl), ?_⟩
              refine x_one (i := 10) (by kernel_rfl) rfl ?_
              refine s_val rfl rfl (v_ia Try.underlying31 sz77 rfl hve rfl (by omega) (by omega)) ?_
              refine x_next ⟨.inr (by kernel_rfl), ?_⟩
              refine x_one (i := 11) (by kernel_rfl) rfl ?_
              refine s_val rfl rfl (v_fa fa77_1 rfl rfl) ?_
              refine x_next ⟨.inr (by kernel_rfl), ?_⟩
              refine x_one (i := 12) (by kernel_rfl) rfl ?_
              rw [hve] at cx
              refine s_storeRow cx rfl rfl rfl rfl rfl (by rw [hm72.len]; exact sz33) (by rw [hm72.len]; show 0 + j * 14 + 1 + 13 ≤ l.length * 14; omega) hm72.one ?_; intro w cx hgs hsz
              rw [← hve] at cx
              replace hKn := hKn.resOwn hA hgs (by rw [hve]; rfl) (fun q hq => ⟨(Made_lt cxc.head q hq).1, (Made_lt cxc.head q hq).2⟩)
              replace hK := hK.daOwn hA hgs (by rw [hve]; rfl) (fun q hq => (Made_lt cxc.head q hq).1)
              refine x_next ⟨.inr (by kernel_rfl), ?_⟩
              refine x_done (by kernel_rfl) ?_
              first
              | exact ⟨_, rfl, l.eraseIdx j, q54, rs54, hs2, hs3, hs4, hs6, rfl, by unfold stepF; rw [if_pos hc43k, erase_drop hLay.nd hj hje], cx.drop 1, hE⟩
              | (refine ⟨_, rfl, l.set j (l[j].1, ovl e ((hasF ov.fields[i].1 l).getD nulV) ov.fields[i].2), v, rs.set j (.string l[j].1 :: r72), hs2, hs3, hs4, hs6, hs5, ?_, ?_, ?_⟩
                 · unfold stepF putF
                   rw [if_neg hc55, if_pos (by rw [hh]; rfl), setF_place hLay.nd hj hje]
                 · have hfs := flat_set rs j (.string l[j].1) _ r72 (RowsF.lens _ _ hrows) hrj hm72.len
                   rw [Int.toNat_natCast, Nat.zero_add, hfs] at cx
                   rw [List.length_set]
                   exact cx.drop 1
                 · refine RowsF.set (RepV.mono ?_ hKn.kp _ _ (by rw [hh]; exact hm72)) _ _ j l[j] (RowsF.mono ?_ hK.kp _ _ hrows) (List.getElem?_eq_getElem hj)
                   · exact Da.res hA cxc.ext.size hs0 hKn.sz hcc (fun i hi => (cxc.lts i (by rcases (by simpa using hi : i = b2 ∨ i = b3 ∨ i = b4) with rfl | rfl | rfl <;> simp)).2) (fun q hq => (Made_lt cxc.head q hq).2) (Nat.le_refl _) (fun q hq => .inl hq)
                   · exact Da.step hK.sz (Nat.le_refl _) (fun q hq => .inl hq))
              | (refine ⟨_, rfl, l ++ [(ov.fields[i].1, ovl e ((hasF ov.fields[i].1 l).getD nulV) ov.fields[i].2)], v42, rs ++ [.string ov.fields[i].1 :: vrow (ovl e nulV ov.fields[i].2).sc ubs uls ufs], hs2, hs3, hs4, hs6, rfl, ?_, ?_, ?_⟩
                 · unfold stepF putF
                   rw [if_neg hc55, if_neg (by rw [hh]; decide)]
                 · rw [List.length_append]
                   simpa using cx.drop 2
                 · rw [hh]
                   refine RowsF.snoc _ _ (RowsF.mono ?_ hK.kp _ _ hrows) (RepV.mono ?_ hKn.kp _ _ hm39)
                   · exact Da.step hK.sz hm0 hnw42
                   · exact Da.res hA cxc.ext.size hs0 hKn.sz hcc (fun i hi => (cxc.lts i (by rcases (by simpa using hi : i = b2 ∨ i = b3 ∨ i = b4) with rfl | rfl | rfl <;> simp)).2) (fun q hq => (Made_lt cxc.head q hq).2) hm1 hnw42)
              | (rcases hp32 with ⟨j, hj, rfl, hje, hjn⟩ | ⟨rfl, hjn⟩
                 · exfalso
                   omega
                 · exact ⟨_, rfl, l, v, rs, hs2, hs3, hs4, hs6, hs5, by unfold stepF; rw [if_pos hc55, dropF_none hjn], cx.drop 1, RowsF.mono (Da.step hK.sz (Nat.le_refl _) (fun q hq => .inl hq)) hK.kp _ _ hrows⟩)
            · skip
              try simp only [Bool.and_eq_true, Bool.or_eq_true, Bool.and_eq_false_iff, Bool.or_eq_false_iff, Bool.not_eq_true', Bool.not_eq_false', decide_eq_true_eq, decide_eq_false_iff_not, beq_iff_eq, beq_eq_false_iff_ne, bne_iff_ne, bne_eq_false_iff_eq, ne_eq, Classical.not_not] at hc60
              rcases hp32 with ⟨j, hj, rfl, hje, hjn⟩ | ⟨rfl, hjn⟩
              · omega
              have hh : hasF ov.fields[i].1 l = none := hasF_none hjn
              refine w_ord cx (cx.pick1 0 rfl) mixed [(0, 33), (1, 34), (2, 35), (3, 36), (4, 37), (5, 38)] #[true, true, true, true, true, true, false, false, false, false, false] (by kernel_rfl) (by kernel_rfl) (by kernel_rfl) (by kernel_rfl) ?_
              refine pu_one rfl (wnt_none rfl) (fun w cx => v_move rfl hs5) ?_
              refine pu_one rfl (wnt_none rfl) (fun w cx => v_fa fa77_0 rfl rfl) ?_
              refine pu_one rfl (wnt_none rfl) (fun w cx => v_load1 rfl rfl Try.underlying9 rfl (cx.cell 0 rfl rfl)) ?_
              refine pu_one rfl (wnt_none rfl) (fun w cx => v_build bd33 rfl rfl) ?_
              refine pu_one rfl (wnt_none rfl) (fun w cx => v_fa fa77_1 rfl rfl) ?_
              refine pu_one rfl (wnt_none rfl) (fun w cx => v_load rfl rfl Try.underlying33 rfl sz33 ((cx.row 0 rfl).rv 1 rfl) rfl) ?_
              refine pu_nil ?_; intro w cx hwD9
              replace hK := hK.below hwD9
              refine x_one (i := 6) (by kernel_rfl) rfl ?_
              have cxc := cx
              have hgB := hLay.base1 (okd_pos hg.2.ok) h0good (List.getElem?_eq_getElem (show i < ov.fields.length by omega))
              refine s_fn cx (ih mb mo nulV ov.fields[i].2 _ _ (Da A w0 wk [b2, b3, b4] v) _ (by rw [hh] at hgB; exact hgB) hg.2 (by omega) (by omega) (fun b hb => Nat.lt_of_lt_of_le (Da.lt hA hk0 b hb) hK.sz) (RepV.mk (v := nulV) repB_nil repL_nil ⟨0, 0, .inl ⟨rfl, rfl⟩, trivial⟩) (RepV.mono (fun _ h => .inl h) (fun b hb => cx.ext.block b (hA b hb)) _ _ hrv)) Try.func23 rfl rfl rfl rfl rfl rfl ?_; intro q39 w cx hw39 hp39
              obtain ⟨r39, rfl, hm39⟩ := hp39
              have hKn := Kp.res (ids := [b2, b3, b4]) (v := v) hA hk0 hK.sz hw39
              have hs0 := hK.sz
              have hcc := hw39.size
              replace hK := hK.below hw39
              obtain ⟨ubs, uls, ufs, rfl, _⟩ := hm39.open
              refine x_next ⟨.inl (cx.pick1 0 rfl), ?_⟩
              refine x_one (i := 7) (by kernel_rfl) rfl ?_
              refine s_val rfl rfl (v_build (bd77 _ _ _ _ _) rfl rfl) ?_
              refine x_next ⟨.inl (cx.pick1 0 rfl), ?_⟩
              refine x_one (i := 8) (by kernel_rfl) rfl ?_
              refine s_bsl1 cx Try.underlying31 sz77 z77 rfl rfl rfl rfl rfl rfl rfl rfl ?_; intro b41 w cx hb41 hw41
              replace hK := hK.below hw41
              replace hKn := hKn.below hw41
              have hm0 := hK.sz
              have hm1 := hKn.sz
              refine x_next ⟨.inl (cx.pick1 1 rfl), ?_⟩
              refine x_one (i := 9) (by kernel_rfl) rfl ?_
              refine s_appendG (m := 1) cx ei77 Try.underlying31 rfl rfl rfl rfl rfl (cx.row 0 rfl) rfl (by exact hm39.one) (by omega) ?_; intro v42 w cx hgr42 hnw42
              replace hKn := hKn.resOwn hA hgr42 rfl (fun q hq => ⟨(Made_lt cxc.head q hq).1, (Made_lt cxc.head q hq).2⟩)
              replace hK := hK.daOwn hA hgr42 rfl (fun q hq => (Made_lt cxc.head q hq).1)
              refine x_next ⟨.inr (by kernel_rfl), ?_⟩
              refine x_one (i := 10) (by kernel_rfl) rfl ?_
              refine s_val rfl rfl (v_assign rfl rfl) ?_
              refine x_next ⟨.inr (by kernel_rfl), ?_⟩
              refine x_done (by kernel_rfl) ?_
              first
              | exact ⟨_, rfl, l.eraseIdx j, q54, rs54, hs2, hs3, hs4, hs6, rfl, by unfold stepF; rw [if_pos hc43k, erase_drop hLay.nd hj hje], cx.drop 1, hE⟩
              | (refine ⟨_, rfl, l.set j (l[j].1, ovl e ((hasF ov.fields[i].1 l).getD nulV) ov.fields[i].2), v, rs.set j (.string l[j].1 :: r72), hs2, hs3, hs4, hs6, hs5, ?_, ?_, ?_⟩
                 · unfold stepF putF
                   rw [if_neg hc55, if_pos (by rw [hh]; rfl), setF_place hLay.nd hj hje]
                 · have hfs := flat_set rs j (.string l[j].1) _ r72 (RowsF.lens _ _ hrows) hrj hm72.len
                   rw [Int.toNat_natCast, Nat.zero_add, hfs] at cx
                   rw [List.length_set]
                   exact cx.drop 1
                 · refine RowsF.set (RepV.mono ?_ hKn.kp _ _ (by rw [hh]; exact hm72)) _ _ j l[j] (RowsF.mono ?_ hK.kp _ _ hrows) (List.getElem?_eq_getElem hj)
                   · exact Da.res hA cxc.ext.size hs0 hKn.sz hcc (fun i hi => (cxc.lts i (by rcases (by simpa using hi : i = b2 ∨ i = b3 ∨ i = b4) with rfl | rfl | rfl <;> simp)).2) (fun q hq => (Made_lt cxc.head q hq).2) (Nat.le_refl _) (fun q hq => .inl hq)
                   · exact Da.step hK.sz (Nat.le_refl _) (fun q hq => .inl hq))
              | (refine ⟨_, rfl, l ++ [(ov.fields[i].1, ovl e ((hasF ov.fields[i].1 l).getD nulV) ov.fields[i].2)], v42, rs ++ [.string ov.fields[i].1 :: vrow (ovl e nulV ov.fields[i].2).sc ubs uls ufs], hs2, hs3, hs4, hs6, rfl, ?_, ?_, ?_⟩
                 · unfold stepF putF
                   rw [if_neg hc55, if_neg (by rw [hh]; decide)]
                 · rw [List.length_append]
                   simpa using cx.drop 2
                 · rw [hh]
                   refine RowsF.snoc _ _ (RowsF.mono ?_ hK.kp _ _ hrows) (RepV.mono ?_ hKn.kp _ _ hm39)
                   · exact Da.step hK.sz hm0 hnw42
                   · exact Da.res hA cxc.ext.size hs0 hKn.sz hcc (fun i hi => (cxc.lts i (by rcases (by simpa using hi : i = b2 ∨ i = b3 ∨ i = b4) with rfl | rfl | rfl <;> simp)).2) (fun q hq => (Made_lt cxc.head q hq).2) hm1 hnw42)
              | (rcases hp32 with ⟨j, hj, rfl, hje, hjn⟩ | ⟨rfl, hjn⟩
                 · exfalso
                   omega
                 · exact ⟨_, rfl, l, v, rs, hs2, hs3, hs4, hs6, hs5, by unfold stepF; rw [if_pos hc55, dropF_none hjn], cx.drop 1, RowsF.mono (Da.step hK.sz (Nat.le_refl _) (fun q hq => .inl hq)) hK.kp _ _ hrows⟩)
      intro f w hJ
      obtain ⟨l', v', rs', hs2, hs3, hs4, hs6, hs5, hl', cx, hrows'⟩ := hJ
      refine wp_region_lit ?_
      refine s_val rfl rfl (v_move rfl hs6) ?_
      refine s_val rfl rfl (v_add rfl rfl rfl (by omega) (by omega)) ?_
      refine s_val rfl rfl (v_assign rfl rfl) ?_
      refine wpList_nil ?_
      exact ⟨gk5 - 1, _, by omega, rfl, i + 1, l', v', rs', by omega, hs2, hs3, hs4, rfl, hs5, by rw [take_fold (by omega), ← hl]; exact hl', cx, hrows'⟩
    · skip
      try simp only [Bool.and_eq_true, Bool.or_eq_true, Bool.and_eq_false_iff, Bool.or_eq_false_iff, Bool.not_eq_true', Bool.not_eq_false', decide_eq_true_eq, decide_eq_false_iff_not, beq_iff_eq, beq_eq_false_iff_ne, bne_iff_ne, bne_eq_false_iff_eq, ne_eq, Classical.not_not] at hc21
      refine wp_exit ?_
      refine wp_seq ?_
      refine wp_region_lit ?_
      obtain ⟨va, vc, rfl, hvg⟩ := cx.ownRow
      have hK := Kp.da hA cx.ext.size [b2, b3, b4] (.slice va l.length vc)
      refine s_val rfl rfl (v_move rfl hs5) ?_
      refine s_val rfl rfl (v_build (bd33f _ _ _) rfl rfl) ?_
      refine s_storeAllG cx 0 rfl rfl rfl hs4 rfl rfl sz33 rfl (vrow_one rfl rfl rfl) ?_; intro w cx hg4
      replace hK := hK.daId hA hg4 (by simp) (cx.lts b4 (by simp)).1
      refine wpList_nil ?_
      refine wp_ret ?_
      have hi : i = ov.fields.length := by omega
      subst hi
      rw [List.take_of_length_le (Nat.le_refl _)] at hl
      refine ret_cell Try.results23 hs4 (cx.at 0 rfl) Try.underlying33 rfl sz33 ⟨cx.ext, _, rfl, ?_⟩
      rw [ovl_map h7, hl0, ← hl]
      refine RepV.mk (v := mapV l) repB_nil repL_nil (RepF.mono ?_ (fun _ _ => rfl) (fld_of_row cx.head rfl (RowsF.mono (fun _ h => h) hK.kp _ _ hrows) (fun _ _ => rfl)))
      rintro b ((hb | hb) | hb)
      · exact .inl hb
      · exact .inr ⟨hb.1.1, Nat.lt_of_lt_of_le hb.1.2 hK.sz⟩
      · exact .inr (Made_lt cx.head b hb)
end Go.Proofs.Ytmkihcdcgkdilaa
