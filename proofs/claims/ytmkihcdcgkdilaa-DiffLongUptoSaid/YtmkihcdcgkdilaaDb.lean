/-
  Contract: Delta of the program.
-/
import Derived.Test.YtmkihcdcgkdilaaDa
import Derived.Test.YtmkihcdcgkdilaaCf
namespace Go.Proofs.Ytmkihcdcgkdilaa
open Go Go.Dk Go.RowKit
set_option linter.unusedSimpArgs false
set_option linter.unusedVariables false
attribute [local irreducible] Go.wpList Go.Code.wp Go.bodyPost Go.wpStill Go.wpQuiet
theorem bd77k (k : ByteArray) (w : World) : (Instr.build 77 ([(0, .string k)] : List (Nat × Value)).toArray).run Try.prog w = .ok (.agg (.string k :: vrow ⟨0, false, false, ByteArray.empty, 0, 0, 0, 0, 0, ByteArray.empty⟩ (.slice none 0 0) (.slice none 0 0) (.slice none 0 0)).toArray) w := by
  unfold vrow
  go_simp
  rfl
theorem rep_nul {A : Nat → Prop} {w : World} : RepV A w nulV (vrow (zk 0) (.slice none 0 0) (.slice none 0 0) (.slice none 0 0)) := RepV.mk (v := nulV) repB_nil repL_nil ⟨0, 0, .inl ⟨rfl, rfl⟩, trivial⟩
theorem rep_map0 {A : Nat → Prop} {w : World} : RepV A w (mapV []) (vrow (zk 7) (.slice none 0 0) (.slice none 0 0) (.slice none 0 0)) := RepV.mk (v := mapV []) repB_nil repL_nil ⟨0, 0, .inl ⟨rfl, rfl⟩, trivial⟩
theorem any_isSome {α : Type} {o : Option α} {p : α → Bool} {z : α} : o.any p = (o.isSome && p (o.getD z)) := by cases o <;> rfl
/-- what a field's pointer is -/
def Fp (w : World) (x : Value) (key : ByteArray) (fs : Fs) : Prop := ∃ pa pb rp, x = .pointer pa ∧ pa.isSome = (hasF key fs).isSome ∧ (pa.isSome = true → pa = some ⟨pb, 0, none⟩ ∧ RowAt w pb 0 rp ∧ Val w ((hasF key fs).getD nulV) rp)
theorem fp_of {w : World} {x : Value} {key : ByteArray} {fs : Fs} (h : match hasF key fs with | some u => ∃ b' r', x = .pointer (some ⟨b', 0, none⟩) ∧ RowAt w b' 0 r' ∧ Val w u r' | none => x = .pointer none) : Fp w x key fs := by
  cases hh : hasF key fs with
  | none =>
    rw [hh] at h
    exact ⟨none, 0, [], h, by rw [hh]; rfl, fun h => by cases h⟩
  | some u =>
    rw [hh] at h
    obtain ⟨b', r', h1, h2, h3⟩ := h
    exact ⟨_, b', r', h1, by rw [hh]; rfl, fun _ => ⟨rfl, h2, by rw [hh]; exact h3⟩⟩

set_option maxRecDepth 10000 in
set_option maxHeartbeats 6400000 in
theorem c32 (E : V → V → Bool) (hE : ∀ x y, E x y = true ↔ canon x = canon y) : ∀ (d : Nat) (a b : V) (ra rb : List Value) (w0 : World), d ≤ 48 → okd 48 a → okd d b → Fine a → Fine b → Val w0 a ra → Val w0 b rb → Fc Try.prog 32 [.agg ra.toArray, .agg rb.toArray] w0 (fun y w' => ∃ l : List Value, y = .tuple #[.agg l.toArray, .bool (dl E d a b).isSome] ∧ RepV (Fr w0 w') w' ((dl E d a b).getD nulV) l) := by
  intro d
  induction d with
  | zero => intro a b ra rb w0 hd hoa hob; exact hob.elim
  | succ d ih =>
  intro a b ra rb w0 hd hoa hob hfa1 hfb hva1 hvb
  obtain ⟨abs, als, afs, rfl, _⟩ := id hva1.open
  obtain ⟨cbs, cls, cfs, rfl, _, _, hcf⟩ := id hvb.open
  obtain ⟨ga, gc, gb, go, rfl, hga, hgget⟩ := hcf.open
  have hbl : b.fields.length ≤ 1048576 := hfb.self.2.2.2.2
  refine ret_enter Try.func32 rfl Try.ntmps32 rfl ?_
  have cx := Ctx.start w0
  refine wp_seq ?_
  refine wp_region_lit ?_
  refine s_box cx rfl rfl rfl rfl rfl ?_; intro b2 w cx hb2 hw2
  refine s_box cx rfl rfl rfl rfl rfl ?_; intro b3 w cx hb3 hw3
  refine s_alloc cx z33 rfl rfl rfl ?_; intro b4 w cx hb4 hw4
  refine s_val rfl rfl (v_assign rfl rfl) ?_
  refine wpList_nil ?_
  refine wp_seq ?_
  refine wp_seq ?_
  refine wp_region_lit ?_
  refine s_val rfl rfl (v_fa fa33_0 rfl rfl) ?_
  refine s_val rfl rfl (v_load1 rfl rfl Try.underlying3 rfl (cx.cell 1 rfl rfl)) ?_
  refine s_val rfl rfl (v_cmp rfl rfl rfl rfl) ?_
  refine wpList_nil ?_
  refine c_split rfl (fun hc17 => ?_) (fun hc17 => ?_)
  · skip
    try simp only [Bool.and_eq_true, Bool.or_eq_true, Bool.and_eq_false_iff, Bool.or_eq_false_iff, Bool.not_eq_true', Bool.not_eq_false', decide_eq_true_eq, decide_eq_false_iff_not, beq_iff_eq, beq_eq_false_iff_ne, bne_iff_ne, bne_eq_false_iff_eq, ne_eq, Classical.not_not] at hc17
    refine wp_seq ?_
    refine wp_region_lit ?_
    refine s_val rfl rfl (v_load rfl rfl Try.underlying33 rfl sz33 (cx.row 1 rfl) rfl) ?_
    have cxc := cx
    refine s_fn cx (c60 48 b _ _ (deep_mono _ _ _ (deep_of_okd _ _ hob) (by omega)) (by omega) (hvb.up cx.ext) hfb) Try.func60 rfl rfl rfl rfl rfl rfl ?_; intro q19 w cx hw19 hp19
    have hKn := Kp.fr hw19
    obtain ⟨r19, rfl, hm19⟩ := hp19.rep
    refine s_storeAllG cx 0 rfl rfl rfl rfl rfl rfl (by rw [hm19.len]; exact sz33) (by rw [hm19.len]; rfl) hm19.one ?_; intro w cx hg4
    replace hKn := hKn.grown hg4 (fun b hb e => by have h1 := (cxc.lts b4 (by simp)).2; have h2 := hb.1; simp at e; omega)
    refine s_val rfl rfl (v_assign rfl rfl) ?_
    refine wpList_nil ?_
    refine wp_ret ?_
    refine ret_cell2 Try.results32 rfl rfl (cx.at 0 rfl) Try.underlying33 rfl (by rw [hm19.len]; exact sz33) ⟨cx.ext, r19, ?_⟩
    rw [dl_else hc17]
    refine ⟨rfl, RepV.mono (fun b hb => ⟨Nat.le_trans cxc.ext.size hb.1, Nat.lt_of_lt_of_le hb.2 hKn.sz⟩) hKn.kp _ _ hm19⟩
  · skip
    try simp only [Bool.and_eq_true, Bool.or_eq_true, Bool.and_eq_false_iff, Bool.or_eq_false_iff, Bool.not_eq_true', Bool.not_eq_false', decide_eq_true_eq, decide_eq_false_iff_not, beq_iff_eq, beq_eq_false_iff_ne, bne_iff_ne, bne_eq_false_iff_eq, ne_eq, Classical.not_not] at hc17
    have h7 : b.sc.kind = 7 := hc17
    refine wp_skip ?_
    refine wp_seq ?_
    refine wp_region_lit ?_
    refine s_val rfl rfl (v_build bd33m rfl rfl) ?_
    refine s_alloc cx z33 rfl rfl rfl ?_; intro b6 w cx hb6 hw6
    refine s_storeAllG cx 0 rfl rfl rfl rfl rfl rfl sz33 rfl rfl ?_; intro w cx hg6
    refine wpList_nil ?_
    refine w_cut (fun f w1 => ∃ (av : V) (ra1 : List Value), f 2 = .pointer (some ⟨b2, 0, none⟩) ∧ f 3 = .pointer (some ⟨b3, 0, none⟩) ∧ f 4 = .pointer (some ⟨b4, 0, none⟩) ∧ f 6 = .pointer (some ⟨b6, 0, none⟩) ∧ av.sc.kind = 7 ∧ av.fields = a.fields ∧ deep 48 av ∧ Fine av ∧ Val w0 av ra1 ∧ Cxr w0 w1 [(b6, .cells (vrow (zk 7) (.slice none 0 0) (.slice none 0 0) (.slice none 0 0)).toArray 33), (b4, .cells ([.int .i64 0, .bool false, .bool false, .string ByteArray.empty, .int .i64 0, .int .i64 0, .int .i64 0, .int .i64 0, .int .i64 0, .string ByteArray.empty, .slice none 0 0, .slice none 0 0, .slice none 0 0] : List Value).toArray 33), (b3, .cells (vrow b.sc cbs cls (.slice ga b.fields.length gc)).toArray 33), (b2, .cells ra1.toArray 33)] []) ?_ ?_
    · skip
      refine wp_seq ?_
      refine wp_region_lit ?_
      refine s_val rfl rfl (v_fa fa33_0 rfl rfl) ?_
      refine s_val rfl rfl (v_load1 rfl rfl Try.underlying3 rfl (cx.cell 3 rfl rfl)) ?_
      refine s_val rfl rfl (v_cmp rfl rfl rfl rfl) ?_
      refine wpList_nil ?_
      refine c_split rfl (fun hc23 => ?_) (fun hc23 => ?_)
      · skip
        try simp only [Bool.and_eq_true, Bool.or_eq_true, Bool.and_eq_false_iff, Bool.or_eq_false_iff, Bool.not_eq_true', Bool.not_eq_false', decide_eq_true_eq, decide_eq_false_iff_not, beq_iff_eq, beq_eq_false_iff_ne, bne_iff_ne, bne_eq_false_iff_eq, ne_eq, Classical.not_not] at hc23
        refine wp_region_lit ?_
        refine s_val rfl rfl (v_build bd33m rfl rfl) ?_
        refine s_storeAllG cx 3 rfl rfl rfl rfl rfl rfl sz33 rfl rfl ?_; intro w cx hg2
        refine wpList_nil ?_
        first
        | exact ⟨_, rfl, mapV [], _, rfl, rfl, rfl, rfl, rfl, (List.eq_nil_of_length_eq_zero (hoa.1.fields hc23)).symm, deep_map0 47, fine_map0, rep_map0, cx⟩
        | exact ⟨_, rfl, a, _, rfl, rfl, rfl, rfl, hc23, rfl, deep_of_okd _ _ hoa, hfa1, hva1, cx⟩
      · skip
        try simp only [Bool.and_eq_true, Bool.or_eq_true, Bool.and_eq_false_iff, Bool.or_eq_false_iff, Bool.not_eq_true', Bool.not_eq_false', decide_eq_true_eq, decide_eq_false_iff_not, beq_iff_eq, beq_eq_false_iff_ne, bne_iff_ne, bne_eq_false_iff_eq, ne_eq, Classical.not_not] at hc23
        refine wp_skip ?_
        first
        | exact ⟨_, rfl, mapV [], _, rfl, rfl, rfl, rfl, rfl, (List.eq_nil_of_length_eq_zero (hoa.1.fields hc23)).symm, deep_map0 47, fine_map0, rep_map0, cx⟩
        | exact ⟨_, rfl, a, _, rfl, rfl, rfl, rfl, hc23, rfl, deep_of_okd _ _ hoa, hfa1, hva1, cx⟩
    intro f w hJ
    obtain ⟨av, ra1, hs2, hs3, hs4, hs6, h7a, hafe, hdav, hfav, hva, cx⟩ := hJ
    obtain ⟨pbs, pls, pfs, rfl, _, _, hpf⟩ := hva.open
    obtain ⟨fa, fc, fb, fo, rfl, hfa, hfget⟩ := hpf.open
    have hal : av.fields.length ≤ 1048576 := hfav.self.2.2.2.2
    refine wp_seq ?_
    refine wp_seq ?_
    refine wp_region_lit ?_
    refine s_val rfl rfl (v_fa fa33_7 rfl hs2) ?_
    refine s_val rfl rfl (v_load1 rfl rfl Try.underlying31 rfl (cx.cell 3 rfl rfl)) ?_
    refine s_val rfl rfl (v_lenSlice rfl rfl Try.underlying31) ?_
    refine s_val rfl rfl (v_move rfl rfl) ?_
    refine wpList_nil ?_
    refine wp_block ?_
    refine w_loop (fun k f w1 => ∃ (i : Nat) (l : Fs) (x : Value) (rs : Els), k + i = av.fields.length ∧ f 2 = .pointer (some ⟨b2, 0, none⟩) ∧ f 3 = .pointer (some ⟨b3, 0, none⟩) ∧ f 4 = .pointer (some ⟨b4, 0, none⟩) ∧ f 6 = .pointer (some ⟨b6, 0, none⟩) ∧ f 26 = .slice fa av.fields.length fc ∧ f 27 = .int .i64 av.fields.length ∧ f 28 = .int .i64 i ∧ l = dlG (av.fields.take i) b.fields ∧ Cxr w0 w1 [(b6, .cells (vrow (zk 7) (.slice none 0 0) (.slice none 0 0) x).toArray 33), (b4, .cells ([.int .i64 0, .bool false, .bool false, .string ByteArray.empty, .int .i64 0, .int .i64 0, .int .i64 0, .int .i64 0, .int .i64 0, .string ByteArray.empty, .slice none 0 0, .slice none 0 0, .slice none 0 0] : List Value).toArray 33), (b3, .cells (vrow b.sc cbs cls (.slice ga b.fields.length gc)).toArray 33), (b2, .cells (vrow av.sc pbs pls (.slice fa av.fields.length fc)).toArray 33)] [⟨77, 14, x, l.length, rs.flatten⟩] ∧ RowsF (Dn w0 w1 [b2, b3, b4, b6] x) w1 l rs) (av.fields.length) ?_ ?_
    · skip
      exact ⟨0, [], _, [], by omega, hs2, hs3, hs4, hs6, rfl, rfl, rfl, rfl, cx.nilRow 77 14, trivial⟩
    intro gk7 f w hJ
    obtain ⟨i, l, x, rs, hki, hs2, hs3, hs4, hs6, hs26, hs27, hs28, hl, cx, hrows⟩ := hJ
    refine wp_seq ?_
    refine wp_region_lit ?_
    refine s_val rfl rfl (v_cmp rfl hs28 hs27 rfl) ?_
    refine wpList_nil ?_
    refine wp_seq ?_
    refine c_split rfl (fun hc29 => ?_) (fun hc29 => ?_)
    · skip
      try simp only [Bool.and_eq_true, Bool.or_eq_true, Bool.and_eq_false_iff, Bool.or_eq_false_iff, Bool.not_eq_true', Bool.not_eq_false', decide_eq_true_eq, decide_eq_false_iff_not, beq_iff_eq, beq_eq_false_iff_ne, bne_iff_ne, bne_eq_false_iff_eq, ne_eq, Classical.not_not] at hc29
      obtain rfl := hfa (by omega)
      obtain ⟨r, hr, hrv⟩ := hfget i av.fields[i] (List.getElem?_eq_getElem (by omega))
      obtain ⟨ebs, els, efs, rfl, _⟩ := hrv.open
      have hK := Kp.dn w0 w [b2, b3, b4, b6] x
      have hll := dlG_length (av.fields.take i) b.fields
      rw [← hl, List.length_take] at hll
      refine wp_skip ?_
      refine wp_seq ?_
      refine wp_block ?_
      refine wp_seq ?_
      refine wp_region_lit ?_
      refine s_val rfl rfl (v_ia Try.underlying31 sz77 rfl hs26 hs28 (by omega) (by omega)) ?_
      refine s_val rfl rfl (v_load rfl rfl Try.underlying77 rfl sz77 (hr.up cx.ext) rfl) ?_
      refine s_alloc cx z77 rfl rfl rfl ?_; intro b8 w cx hb8 hw8
      have hl8 := Nat.le_trans hK.sz (Nat.le_of_eq hb8)
      replace hK := hK.below hw8
      refine s_storeAllG cx 0 rfl rfl rfl rfl rfl rfl sz77 rfl (by exact hrv.oneCell) ?_; intro w cx hg8
      replace hK := hK.later hg8 hl8
      refine wpList_nil ?_
      refine wp_seq ?_
      refine wp_region_lit ?_
      refine s_val rfl rfl (v_fa fa77_0 rfl rfl) ?_
      refine s_val rfl rfl (v_load1 rfl rfl Try.underlying9 rfl (cx.cell 0 rfl rfl)) ?_
      refine s_fn cx (c61 48 b _ b3 av.fields[i].1 _ (deep_mono _ _ _ (deep_of_okd _ _ hob) (by omega)) (by omega) (cx.row 3 rfl) (hvb.up cx.ext) hfb h7) Try.func61 rfl rfl rfl rfl rfl (cons_eq hs3 rfl) ?_; intro q34 w cx hw34 hp34
      replace hK := hK.below hw34
      obtain ⟨pa, pb, rp, rfl, hps, hpr⟩ := fp_of hp34
      refine s_val rfl rfl (v_ptrNil rfl rfl rfl Try.underlying75) ?_
      refine wpList_nil ?_
      refine c_split rfl (fun hc35 => ?_) (fun hc35 => ?_)
      · skip
        skip
        have hnone : (hasF av.fields[i].1 b.fields).isSome = false := by rw [← hps]; cases pa <;> simp_all
        have hdt : dlG (av.fields.take (i + 1)) b.fields = l ++ [(av.fields[i].1, nulV)] := by rw [dlG_take (by omega), hnone, ← hl]; rfl
        refine wp_region_lit ?_
        refine s_val rfl rfl (v_fa fa33_7 rfl hs6) ?_
        refine s_val rfl rfl (v_load1 rfl rfl Try.underlying31 rfl (cx.cell 1 rfl rfl)) ?_
        refine s_val rfl rfl (v_fa fa77_0 rfl rfl) ?_
        refine s_val rfl rfl (v_load1 rfl rfl Try.underlying9 rfl (cx.cell 0 rfl rfl)) ?_
        refine s_val rfl rfl (v_build (bd77k _) rfl rfl) ?_
        refine s_bsl1 cx Try.underlying31 sz77 z77 rfl rfl rfl rfl rfl rfl rfl rfl ?_; intro b41 w cx hb41 hw41
        replace hK := hK.below hw41
        have hm0 := hK.sz
        refine s_appendG (m := 1) cx ei77 Try.underlying31 rfl rfl rfl rfl rfl (cx.row 0 rfl) rfl rfl (by omega) ?_; intro v42 w cx hgr42 hnw42
        replace hK := hK.dnOwn hgr42
        refine s_val rfl rfl (v_fa fa33_7 rfl hs6) ?_
        refine s_store1G (v := v42) cx 2 rfl rfl rfl rfl rfl (own_one cx.head) rfl rfl rfl ?_; intro w cx hg6
        replace hK := hK.dnId hg6 (by simp)
        refine wpList_nil ?_
        refine wp_region_lit ?_
        refine s_val rfl rfl (v_add rfl hs28 rfl (by omega) (by omega)) ?_
        refine s_val rfl rfl (v_move rfl rfl) ?_
        refine wpList_nil ?_
        refine ⟨gk7 - 1, _, by omega, rfl, i + 1, l ++ [(av.fields[i].1, nulV)], v42, rs ++ [.string av.fields[i].1 :: vrow (zk 0) (.slice none 0 0) (.slice none 0 0) (.slice none 0 0)], by omega, hs2, hs3, hs4, hs6, hs26, hs27, rfl, hdt.symm, ?_, ?_⟩
        · rw [List.length_append]
          simpa [vrow, mapV, zk] using cx.drop 2
        · exact RowsF.snoc _ _ (RowsF.mono (Dn.step hK.sz hm0 hnw42) hK.kp _ _ hrows) rep_nul
      · skip
        skip
        have hsome : (hasF av.fields[i].1 b.fields).isSome = true := by rw [← hps]; cases pa <;> simp_all
        have hdt : dlG (av.fields.take (i + 1)) b.fields = l := by rw [dlG_take (by omega), hsome, ← hl]; rfl
        refine wp_skip ?_
        refine wp_region_lit ?_
        refine s_val rfl rfl (v_add rfl hs28 rfl (by omega) (by omega)) ?_
        refine s_val rfl rfl (v_move rfl rfl) ?_
        refine wpList_nil ?_
        exact ⟨gk7 - 1, _, by omega, rfl, i + 1, l, x, rs, by omega, hs2, hs3, hs4, hs6, hs26, hs27, rfl, hdt.symm, cx.drop 1, RowsF.mono (Dn.step hK.sz (Nat.le_refl _) (fun q hq => .inl hq)) hK.kp _ _ hrows⟩
    · skip
      try simp only [Bool.and_eq_true, Bool.or_eq_true, Bool.and_eq_false_iff, Bool.or_eq_false_iff, Bool.not_eq_true', Bool.not_eq_false', decide_eq_true_eq, decide_eq_false_iff_not, beq_iff_eq, beq_eq_false_iff_ne, bne_iff_ne, bne_eq_false_iff_eq, ne_eq, Classical.not_not] at hc29
      refine wp_exit ?_
      refine wp_seq ?_
      refine wp_seq ?_
      refine wp_region_lit ?_
      refine s_val rfl rfl (v_fa fa33_7 rfl hs3) ?_
      refine s_val rfl rfl (v_load1 rfl rfl Try.underlying31 rfl (cx.cell 2 rfl rfl)) ?_
      refine s_val rfl rfl (v_lenSlice rfl rfl Try.underlying31) ?_
      refine s_val rfl rfl (v_move rfl rfl) ?_
      refine wpList_nil ?_
      refine wp_block ?_
      refine w_loop (fun k f w1 => ∃ (i : Nat) (l : Fs) (x : Value) (rs : Els), k + i = b.fields.length ∧ f 2 = .pointer (some ⟨b2, 0, none⟩) ∧ f 3 = .pointer (some ⟨b3, 0, none⟩) ∧ f 4 = .pointer (some ⟨b4, 0, none⟩) ∧ f 6 = .pointer (some ⟨b6, 0, none⟩) ∧ f 46 = .slice ga b.fields.length gc ∧ f 47 = .int .i64 b.fields.length ∧ f 48 = .int .i64 i ∧ (b.fields.take i).foldl (dlStep E (dl E d) av.fields) (some (dlG av.fields b.fields)) = some l ∧ Cxr w0 w1 [(b6, .cells (vrow (zk 7) (.slice none 0 0) (.slice none 0 0) x).toArray 33), (b4, .cells ([.int .i64 0, .bool false, .bool false, .string ByteArray.empty, .int .i64 0, .int .i64 0, .int .i64 0, .int .i64 0, .int .i64 0, .string ByteArray.empty, .slice none 0 0, .slice none 0 0, .slice none 0 0] : List Value).toArray 33), (b3, .cells (vrow b.sc cbs cls (.slice ga b.fields.length gc)).toArray 33), (b2, .cells (vrow av.sc pbs pls (.slice fa av.fields.length fc)).toArray 33)] [⟨77, 14, x, l.length, rs.flatten⟩] ∧ RowsF (Dn w0 w1 [b2, b3, b4, b6] x) w1 l rs) (b.fields.length) ?_ ?_
      · skip
        refine ⟨0, l, x, rs, by omega, hs2, hs3, hs4, hs6, rfl, rfl, rfl, ?_, cx, hrows⟩
        have hi : i = av.fields.length := by omega
        rw [hl, hi, List.take_of_length_le (Nat.le_refl _)]; rfl
      intro gk13 f w hJ
      obtain ⟨i, l, x, rs, hki, hs2, hs3, hs4, hs6, hs46, hs47, hs48, hl, cx, hrows⟩ := hJ
      refine wp_seq ?_
      refine wp_region_lit ?_
      refine s_val rfl rfl (v_cmp rfl hs48 hs47 rfl) ?_
      refine wpList_nil ?_
      refine wp_seq ?_
      refine c_split rfl (fun hc49 => ?_) (fun hc49 => ?_)
      · skip
        try simp only [Bool.and_eq_true, Bool.or_eq_true, Bool.and_eq_false_iff, Bool.or_eq_false_iff, Bool.not_eq_true', Bool.not_eq_false', decide_eq_true_eq, decide_eq_false_iff_not, beq_iff_eq, beq_eq_false_iff_ne, bne_iff_ne, bne_eq_false_iff_eq, ne_eq, Classical.not_not] at hc49
        obtain rfl := hga (by omega)
        obtain ⟨r, hr, hrv⟩ := hgget i b.fields[i] (List.getElem?_eq_getElem (by omega))
        obtain ⟨ebs, els, efs, rfl, _⟩ := hrv.open
        have hK := Kp.dn w0 w [b2, b3, b4, b6] x
        have hll := dlStep_length _ _ _ hl
        have hll2 := dlG_length av.fields b.fields
        rw [List.length_take] at hll
        have hkm : b.fields[i] ∈ b.fields := List.getElem_mem _
        refine wp_skip ?_
        refine wp_seq ?_
        refine wp_block ?_
        refine wp_seq ?_
        refine wp_region_lit ?_
        refine s_val rfl rfl (v_ia Try.underlying31 sz77 rfl hs46 hs48 (by omega) (by omega)) ?_
        refine s_val rfl rfl (v_load rfl rfl Try.underlying77 rfl sz77 (hr.up cx.ext) rfl) ?_
        refine s_alloc cx z77 rfl rfl rfl ?_; intro b10 w cx hb10 hw10
        have hl10 := Nat.le_trans hK.sz (Nat.le_of_eq hb10)
        replace hK := hK.below hw10
        refine s_storeAllG cx 0 rfl rfl rfl rfl rfl rfl sz77 rfl (by exact hrv.oneCell) ?_; intro w cx hg10
        replace hK := hK.later hg10 hl10
        refine wpList_nil ?_
        refine wp_seq ?_
        refine wp_region_lit ?_
        refine s_val rfl rfl (v_fa fa77_0 rfl rfl) ?_
        refine s_val rfl rfl (v_load1 rfl rfl Try.underlying9 rfl (cx.cell 0 rfl rfl)) ?_
        refine s_fn cx (c61 48 av _ b2 b.fields[i].1 _ hdav (by omega) (cx.row 4 rfl) (hva.up cx.ext) hfav h7a) Try.func61 rfl rfl rfl rfl rfl (cons_eq hs2 rfl) ?_; intro q54 w cx hw54 hp54
        replace hK := hK.below hw54
        obtain ⟨pa, pb, rp, rfl, hps, hpr⟩ := fp_of hp54
        have hnone : pa.isSome = false → hasF b.fields[i].1 av.fields = none := fun h => by
          rw [hps] at h
          cases hh : hasF b.fields[i].1 av.fields with
          | none => rfl
          | some u => rw [hh] at h; cases h
        have hov : okd 48 ((hasF b.fields[i].1 av.fields).getD nulV) ∧ Fine ((hasF b.fields[i].1 av.fields).getD nulV) := by
          cases hh : hasF b.fields[i].1 av.fields with
          | none => exact ⟨okd_mono _ _ _ okd_nul (by omega), fine_nul⟩
          | some u =>
            have hm := hasF_mem hh
            have hma : (b.fields[i].1, u) ∈ a.fields := by rw [← hafe]; exact hm
            exact ⟨okd_mono 47 48 _ (hoa.2.2.2 _ hma) (by omega), (hfa1.field hma).2⟩
        refine s_val rfl rfl (v_assign rfl rfl) ?_
        refine wpList_nil ?_
        refine wp_seq ?_
        refine wp_seq ?_
        refine w_quiet cx mixed (by kernel_rfl) ?_
        skip
        obtain ⟨w54, hw54e⟩ : ∃ y, y = w := ⟨_, rfl⟩
        subst hw54e
        refine q_val rfl rfl (fun w cx hwQ => v_move rfl rfl) ?_
        refine q_val rfl rfl (fun w cx hwQ => v_ptrNe rfl rfl rfl Try.underlying75) ?_
        refine q_val rfl rfl (fun w cx hwQ => v_move rfl rfl) ?_
        refine q_gval rfl rfl rfl (by first | exact w_tt rfl | exact w_gt rfl) (fun hc w cx hwQ => v_move rfl (by first | exact gve hc rfl | exact gve (and_l hc) rfl | exact gve (and_l (and_l hc)) rfl | rfl)) ?_
        refine q_gval rfl rfl rfl (by first | exact w_tt rfl | exact w_gt rfl) (fun hc w cx hwQ => v_nilCk rfl ((gve hc rfl).trans (congrArg Value.pointer (hpr hc).1))) ?_
        refine q_gval rfl rfl rfl (by first | exact w_tt rfl | exact w_gt rfl) (fun hc w cx hwQ => v_load rfl (gve hc rfl) Try.underlying33 rfl sz33 ((hpr hc).2.1.up hwQ) (hpr hc).2.2.len) ?_
        refine q_gval rfl rfl rfl (by first | exact w_tt rfl | exact w_gt rfl) (fun hc w cx hwQ => v_fa fa77_1 rfl (by first | exact gve hc rfl | exact gve (and_l hc) rfl | exact gve (and_l (and_l hc)) rfl | rfl)) ?_
        refine q_gval rfl rfl rfl (by first | exact w_tt rfl | exact w_gt rfl) (fun hc w cx hwQ => v_load rfl (gve hc rfl) Try.underlying33 rfl sz33 ((cx.row 0 rfl).tail) rfl) ?_
        refine q_gcall rfl rfl rfl (by first | exact w_tt rfl | exact w_gt rfl) (fun hc => runs_fn Try.func53 rfl rfl rfl (cons_eq (gve hc rfl) (cons_eq (gve hc rfl) rfl))) (fun hc w cx hwQ => (c53 48 _ _ _ _ _ (by omega) hov.1 (okd_mono d 48 _ (hob.2.2.2 _ hkm) (by omega)) hov.2 (hfb.field hkm).2 ((hpr hc).2.2.up hwQ) (hrv.up cx.ext)).det fun b hb => Bool.eq_iff_iff.2 (hb.trans (hE _ _).symm)) ?_
        refine q_val rfl rfl (fun w cx hwQ => v_and rfl rfl rfl rfl) ?_
        refine q_nil ?_; rintro w ⟨cx, hwQ16⟩
        refine c_split rfl (fun hc64 => ?_) (fun hc64 => ?_)
        · skip
          skip
          have hany : (hasF b.fields[i].1 av.fields).any (fun old => E old b.fields[i].2) = true := by rw [any_isSome (z := nulV), ← hps]; exact hc64
          refine wp_exit ?_
          refine wp_region_lit ?_
          refine s_val rfl rfl (v_add rfl hs48 rfl (by omega) (by omega)) ?_
          refine s_val rfl rfl (v_move rfl rfl) ?_
          refine wpList_nil ?_
          refine ⟨gk13 - 1, _, by omega, rfl, i + 1, l, x, rs, by omega, hs2, hs3, hs4, hs6, hs46, hs47, rfl, ?_, by simpa using cx.drop 1, RowsF.mono (Dn.step (hK.below hwQ16).sz (Nat.le_refl _) (fun q hq => .inl hq)) (hK.below hwQ16).kp _ _ hrows⟩
          rw [take_foldO (by omega), hl]
          unfold dlStep
          simp only
          rw [if_pos hany]
        · skip
          skip
          have hany : (hasF b.fields[i].1 av.fields).any (fun old => E old b.fields[i].2) = false := by rw [any_isSome (z := nulV), ← hps]; exact hc64
          refine wp_skip ?_
          refine wp_seq ?_
          refine wp_region_lit ?_
          replace hK := hK.below hwQ16
          refine s_alloc cx z33 rfl rfl rfl ?_; intro b12 w cx hb12 hw12
          refine wpList_nil ?_
          refine w_cut (fun f w1 => ∃ rw12 : List Value, f 2 = .pointer (some ⟨b2, 0, none⟩) ∧ f 3 = .pointer (some ⟨b3, 0, none⟩) ∧ f 4 = .pointer (some ⟨b4, 0, none⟩) ∧ f 6 = .pointer (some ⟨b6, 0, none⟩) ∧ f 46 = .slice (some ⟨gb, go, none⟩) b.fields.length gc ∧ f 47 = .int .i64 b.fields.length ∧ f 48 = .int .i64 i ∧ f 10 = .pointer (some ⟨b10, 0, none⟩) ∧ f 12 = .pointer (some ⟨b12, 0, none⟩) ∧ Val w1 ((hasF b.fields[i].1 av.fields).getD nulV) rw12 ∧ Cxr w0 w1 ((b12, .cells rw12.toArray 33) :: (b10, .cells (.string b.fields[i].1 :: vrow b.fields[i].2.sc ebs els efs).toArray 77) :: [(b6, .cells (vrow (zk 7) (.slice none 0 0) (.slice none 0 0) x).toArray 33), (b4, .cells ([.int .i64 0, .bool false, .bool false, .string ByteArray.empty, .int .i64 0, .int .i64 0, .int .i64 0, .int .i64 0, .int .i64 0, .string ByteArray.empty, .slice none 0 0, .slice none 0 0, .slice none 0 0] : List Value).toArray 33), (b3, .cells (vrow b.sc cbs cls (.slice (some ⟨gb, go, none⟩) b.fields.length gc)).toArray 33), (b2, .cells (vrow av.sc pbs pls (.slice fa av.fields.length fc)).toArray 33)]) [⟨77, 14, x, l.length, rs.flatten⟩] ∧ RowsF (Dn w0 w1 [b2, b3, b4, b6] x) w1 l rs) ?_ ?_
          · skip
            refine wp_seq ?_
            refine wp_region_lit ?_
            have hl12 := Nat.le_trans hK.sz (Nat.le_of_eq hb12)
            replace hK := hK.below hw12
            refine s_val rfl rfl (v_move rfl rfl) ?_
            refine s_val rfl rfl (v_ptrNe rfl rfl rfl Try.underlying75) ?_
            refine wpList_nil ?_
            refine c_split rfl (fun hc66 => ?_) (fun hc66 => ?_)
            · skip
              skip
              refine wp_region_lit ?_
              refine s_val rfl rfl (v_move rfl rfl) ?_
              refine s_val rfl rfl (v_nilCk rfl (congrArg Value.pointer (hpr hc66).1)) ?_
              refine s_val rfl rfl (v_load rfl rfl Try.underlying33 rfl sz33 ((hpr hc66).2.1.up (hwQ16.trans (hw12.mono hwQ16.size))) (hpr hc66).2.2.len) ?_
              refine s_storeAllG cx 0 rfl rfl rfl rfl rfl rfl (by rw [(hpr hc66).2.2.len]; exact sz33) (by rw [(hpr hc66).2.2.len]; rfl) (hpr hc66).2.2.oneCell ?_; intro w cx hg12
              have hKv := ((Kp.refl (C := fun b => b < w54.heap.size) (w := w54) (fun _ h => h)).below hwQ16).below hw12
              replace hK := hK.later hg12 hl12
              refine wpList_nil ?_
              first
              | exact ⟨_, rfl, rp, hs2, hs3, hs4, hs6, hs46, hs47, hs48, rfl, rfl, RepV.mono (fun b hb => Nat.lt_of_lt_of_le hb (Nat.le_trans hKv.sz hg12.size)) (fun b hb => (hg12.block b (Nat.lt_of_lt_of_le hb hKv.sz) (by simp; have := Nat.lt_of_lt_of_le hb hwQ16.size; omega)).trans (hKv.kp b hb)) _ _ (hpr hc66).2.2, cx, RowsF.mono (Dn.step hK.sz (Nat.le_refl _) (fun q hq => .inl hq)) hK.kp _ _ hrows⟩
              | exact ⟨_, rfl, _, hs2, hs3, hs4, hs6, hs46, hs47, hs48, rfl, rfl, by rw [hnone hc66]; exact rep_nul, cx, RowsF.mono (Dn.step hK.sz (Nat.le_refl _) (fun q hq => .inl hq)) hK.kp _ _ hrows⟩
            · skip
              skip
              refine wp_skip ?_
              first
              | exact ⟨_, rfl, rp, hs2, hs3, hs4, hs6, hs46, hs47, hs48, rfl, rfl, RepV.mono (fun b hb => Nat.lt_of_lt_of_le hb (Nat.le_trans hKv.sz hg12.size)) (fun b hb => (hg12.block b (Nat.lt_of_lt_of_le hb hKv.sz) (by simp; have := Nat.lt_of_lt_of_le hb hwQ16.size; omega)).trans (hKv.kp b hb)) _ _ (hpr hc66).2.2, cx, RowsF.mono (Dn.step hK.sz (Nat.le_refl _) (fun q hq => .inl hq)) hK.kp _ _ hrows⟩
              | exact ⟨_, rfl, _, hs2, hs3, hs4, hs6, hs46, hs47, hs48, rfl, rfl, by rw [hnone hc66]; exact rep_nul, cx, RowsF.mono (Dn.step hK.sz (Nat.le_refl _) (fun q hq => .inl hq)) hK.kp _ _ hrows⟩
          intro f w hJ
          obtain ⟨rw12, hs2, hs3, hs4, hs6, hs46, hs47, hs48, hs10, hs12, hvw, cx, hrows⟩ := hJ
          have hK := Kp.dn w0 w [b2, b3, b4, b6] x
          refine wp_seq ?_
          refine wp_region_lit ?_
          refine s_val rfl rfl (v_load rfl hs12 Try.underlying33 rfl sz33 (cx.row 0 rfl) hvw.len) ?_
          refine s_val rfl rfl (v_fa fa77_1 rfl hs10) ?_
          refine s_val rfl rfl (v_load rfl rfl Try.underlying33 rfl sz33 ((cx.row 1 rfl).tail) rfl) ?_
          have cxc := cx
          obtain ⟨wc74, hwc74⟩ : ∃ y, y = w := ⟨_, rfl⟩
          subst hwc74
          refine s_fn cx (ih _ _ _ _ _ (by omega) hov.1 (hob.2.2.2 _ hkm) hov.2 (hfb.field hkm).2 hvw (hrv.up cx.ext)) Try.func32 rfl rfl rfl rfl rfl rfl ?_; intro q74 w cx hw74 hp74
          obtain ⟨l74, rfl, hm74⟩ := hp74
          obtain ⟨wd74, hwd74⟩ : ∃ y, y = w := ⟨_, rfl⟩
          subst hwd74
          have hKn := Kp.fr hw74
          replace hK := hK.below hw74
          refine s_val rfl rfl (v_move rfl rfl) ?_
          refine s_val rfl rfl (v_extract rfl rfl rfl) ?_
          refine s_val rfl rfl (v_extract rfl rfl rfl) ?_
          refine s_alloc cx z33 rfl rfl rfl ?_; intro b13 w cx hb13 hw13
          have hl13 := Nat.le_trans hK.sz (Nat.le_of_eq hb13)
          replace hK := hK.below hw13
          replace hKn := hKn.below hw13
          refine s_storeAllG cx 0 rfl rfl rfl rfl rfl rfl (by rw [hm74.len]; exact sz33) (by rw [hm74.len]; rfl) hm74.one ?_; intro w cx hg13
          replace hK := hK.later hg13 hl13
          replace hKn := hKn.later hg13 (Nat.le_of_eq hb13)
          refine s_val rfl rfl (v_assign rfl rfl) ?_
          refine wpList_nil ?_
          refine wp_seq ?_
          refine wp_seq ?_
          refine wp_region_lit ?_
          refine s_val rfl rfl (v_move rfl rfl) ?_
          refine s_val rfl rfl (v_not rfl rfl) ?_
          refine s_val rfl rfl (v_move rfl rfl) ?_
          refine s_gval rfl rfl rfl (by first | exact w_ff rfl | exact w_gf rfl) (fun hc => v_fa fa77_1 rfl hs10) ?_
          refine s_gval rfl rfl rfl (by first | exact w_ff rfl | exact w_gf rfl) (fun hc => v_fa fa33_0 rfl (by first | exact gve hc rfl | exact gve (and_l hc) rfl | exact gve (and_l (and_l hc)) rfl | rfl)) ?_
          refine s_gval rfl rfl rfl (by first | exact w_ff rfl | exact w_gf rfl) (fun hc => v_load1 rfl (gve hc rfl) Try.underlying3 rfl ((cx.row 2 rfl).tail.cell 0 rfl)) ?_
          refine s_gval rfl rfl rfl (by first | exact w_ff rfl | exact w_gf rfl) (fun hc => v_cmp rfl (by first | exact gve hc rfl | exact gve (and_l hc) rfl | exact gve (and_l (and_l hc)) rfl | rfl) rfl rfl) ?_
          refine s_val rfl rfl (v_or rfl rfl rfl rfl) ?_
          refine wpList_nil ?_
          refine c_split rfl (fun hc84 => ?_) (fun hc84 => ?_)
          · skip
            skip
            have hstep : dlStep E (dl E d) a.fields ((b.fields.take i).foldl (dlStep E (dl E d) a.fields) (some (dlG a.fields b.fields))) b.fields[i] = none := by
              rw [← hafe, hl]
              unfold dlStep
              simp only
              rw [hany]
              simp only [Bool.false_eq_true, if_false]
              cases hdd : dl E d ((hasF b.fields[i].1 av.fields).getD nulV) b.fields[i].2 with
              | none => rfl
              | some u =>
                rw [hdd] at hc84
                simp at hc84
                simp [hc84]
            refine wp_seq ?_
            refine wp_region_lit ?_
            refine s_val rfl rfl (v_build bd33 rfl rfl) ?_
            refine s_storeAllG cx 4 rfl rfl rfl hs4 rfl rfl sz33 rfl rfl ?_; intro w cx hg4
            refine s_val rfl rfl (v_assign rfl rfl) ?_
            refine wpList_nil ?_
            refine wp_ret ?_
            have hdn : dl E (d + 1) a b = none := by
              rw [dl_map h7, dl_fail _ (by omega) hstep]; rfl
            refine ret_cell2 (l := vrow (zk 0) (.slice none 0 0) (.slice none 0 0) (.slice none 0 0)) Try.results32 hs4 rfl (cx.at 4 rfl) Try.underlying33 rfl sz33 ⟨cx.ext, vrow (zk 0) (.slice none 0 0) (.slice none 0 0) (.slice none 0 0), ?_⟩
            rw [hdn]
            exact ⟨rfl, rep_nul⟩
          · skip
            skip
            obtain ⟨u, hdd, hk0⟩ : ∃ u, dl E d ((hasF b.fields[i].1 av.fields).getD nulV) b.fields[i].2 = some u ∧ b.fields[i].2.sc.kind ≠ 0 := by
              cases hdd : dl E d ((hasF b.fields[i].1 av.fields).getD nulV) b.fields[i].2 with
              | none => rw [hdd] at hc84; simp at hc84
              | some u => rw [hdd] at hc84; simp at hc84; exact ⟨u, rfl, hc84⟩
            rw [hdd] at hm74
            replace hm74 : RepV (Fr wc74 wd74) wd74 u l74 := hm74
            obtain ⟨nbs, nls, nfs, rfl, _⟩ := hm74.open
            have hstep : dlStep E (dl E d) av.fields (some l) b.fields[i] = some (l ++ [(b.fields[i].1, u)]) := by
              unfold dlStep
              simp only
              rw [hany]
              simp [hdd, hk0]
            refine wp_skip ?_
            refine wp_region_lit ?_
            refine s_val rfl rfl (v_fa fa33_7 rfl hs6) ?_
            refine s_val rfl rfl (v_load1 rfl rfl Try.underlying31 rfl (cx.cell 3 rfl rfl)) ?_
            refine s_val rfl rfl (v_fa fa77_0 rfl hs10) ?_
            refine s_val rfl rfl (v_load1 rfl rfl Try.underlying9 rfl (cx.cell 2 rfl rfl)) ?_
            refine s_val rfl rfl (v_load rfl rfl Try.underlying33 rfl sz33 (cx.row 0 rfl) rfl) ?_
            refine s_val rfl rfl (v_build (bd77 _ _ _ _ _) rfl rfl) ?_
            refine s_bsl1 cx Try.underlying31 sz77 z77 rfl rfl rfl rfl rfl rfl rfl rfl ?_; intro b92 w cx hb92 hw92
            replace hK := hK.below hw92
            replace hKn := hKn.below hw92
            have hm0 := hK.sz
            have hm1 := hKn.sz
            refine s_appendG (m := 1) cx ei77 Try.underlying31 rfl rfl rfl rfl rfl (cx.row 0 rfl) rfl (by exact hm74.one) (by omega) ?_; intro v93 w cx hgr93 hnw93
            replace hK := hK.dnOwn hgr93
            replace hKn := hKn.frOwn hgr93 (fun q hq => (Made_lt cxc.head q hq).2)
            refine s_val rfl rfl (v_fa fa33_7 rfl hs6) ?_
            refine s_store1G (v := v93) cx 4 rfl rfl rfl rfl rfl (own_one cx.head) rfl rfl rfl ?_; intro w cx hg6
            replace hK := hK.dnId hg6 (by simp)
            replace hKn := hKn.grown hg6 (fun b hb e => by simp at e; subst e; have h3 := (cxc.lts _ (by simp : b6 ∈ _)); have := hb.1; omega)
            refine wpList_nil ?_
            refine wp_region_lit ?_
            refine s_val rfl rfl (v_add rfl hs48 rfl (by omega) (by omega)) ?_
            refine s_val rfl rfl (v_move rfl rfl) ?_
            refine wpList_nil ?_
            refine ⟨gk13 - 1, _, by omega, rfl, i + 1, l ++ [(b.fields[i].1, u)], v93, rs ++ [.string b.fields[i].1 :: vrow u.sc nbs nls nfs], by omega, hs2, hs3, hs4, hs6, hs46, hs47, rfl, ?_, ?_, ?_⟩
            · rw [take_foldO (by omega), hl]; exact hstep
            · rw [List.length_append]
              simpa [vrow, mapV, zk] using cx.drop 4
            · refine RowsF.snoc _ _ (RowsF.mono (Dn.step hK.sz hm0 hnw93) hK.kp _ _ hrows) (RepV.mono ?_ hKn.kp _ _ hm74)
              exact Dn.new cxc.ext.size hKn.sz (fun i hi => (cxc.lts i (by rcases (by simpa using hi : i = b2 ∨ i = b3 ∨ i = b4 ∨ i = b6) with rfl | rfl | rfl | rfl <;> simp)).2) (fun q hq => (Made_lt cxc.head q hq).2) hm1 hnw93
      · skip
        try simp only [Bool.and_eq_true, Bool.or_eq_true, Bool.and_eq_false_iff, Bool.or_eq_false_iff, Bool.not_eq_true', Bool.not_eq_false', decide_eq_true_eq, decide_eq_false_iff_not, beq_iff_eq, beq_eq_false_iff_ne, bne_iff_ne, bne_eq_false_iff_eq, ne_eq, Classical.not_not] at hc49
        have hK := Kp.dn w0 w [b2, b3, b4, b6] x
        refine wp_exit ?_
        refine wp_seq ?_
        refine wp_region_lit ?_
        refine s_val rfl rfl (v_load rfl hs6 Try.underlying33 rfl sz33 (l := vrow (zk 7) (.slice none 0 0) (.slice none 0 0) x) (cx.row 0 rfl) rfl) ?_
        refine s_storeAllG cx 1 rfl rfl rfl hs4 rfl rfl sz33 rfl (vrow_one rfl rfl (own_one cx.head)) ?_; intro w cx hg4
        replace hK := hK.dnId hg4 (by simp)
        refine s_val rfl rfl (v_assign rfl rfl) ?_
        refine wpList_nil ?_
        refine wp_ret ?_
        have hi : i = b.fields.length := by omega
        subst hi
        rw [List.take_of_length_le (Nat.le_refl _)] at hl
        have hds : dl E (d + 1) a b = some (mapV l) := by rw [dl_map h7, ← hafe, hl]; rfl
        refine ret_cell2 Try.results32 hs4 rfl (cx.at 1 rfl) Try.underlying33 rfl sz33 ⟨cx.ext, vrow (zk 7) (.slice none 0 0) (.slice none 0 0) x, ?_⟩
        rw [hds]
        refine ⟨rfl, RepV.mk (v := mapV l) repB_nil repL_nil (RepF.mono ?_ (fun _ _ => rfl) (fld_of_row cx.head rfl (RowsF.mono (fun _ h => h) hK.kp _ _ hrows) (fun _ _ => rfl)))⟩
        rintro b (hb | hb)
        · exact ⟨hb.1.1, Nat.lt_of_lt_of_le hb.1.2 hK.sz⟩
        · exact Made_lt cx.head b hb
end Go.Proofs.Ytmkihcdcgkdilaa
