/-
  Contract: differ of the program.
-/
import Derived.Test.YtmkihcdcgkdilaaPc
namespace Go.Proofs.Ytmkihcdcgkdilaa
open Go Go.Dk Go.RowKit
set_option linter.unusedSimpArgs false
set_option linter.unusedVariables false
attribute [local irreducible] Go.wpList Go.Code.wp Go.bodyPost Go.wpStill Go.wpQuiet
set_option maxRecDepth 10000 in
set_option maxHeartbeats 6400000 in
theorem c58 (E : V → V → Bool) (hE : ∀ x y, E x y = true ↔ canon x = canon y) : ∀ (d : Nat) (wb : World) (L : List (Nat × Obj)) (R : List Row) (v : Value) (n : Nat) (cs : List Value) (p : List Stp) (ps : Value) (a b : V) (ra rb : List Value) (w0 : World), Cxr wb w0 L (⟨24, 1, v, n, cs⟩ :: R) → PthA (D0 w0 v) w0 ps p → RepV (D0 w0 v) w0 a ra → RepV (D0 w0 v) w0 b rb → okd d a → okd d b → Fine a → Fine b → p.length + d ≤ 100 → d ≤ 48 → n + (dfr E d p a b).length ≤ 1048576 →
    Ret Try.prog 58 [v, ps, .agg ra.toArray, .agg rb.toArray] w0 (fun x w' => ∃ cs' : List Value, Cxr wb w' L (⟨24, 1, x, n + (dfr E d p a b).length, cs ++ cs'⟩ :: R) ∧ Kp (D0 w0 v) w0 w' ∧ PthsC (fun b => Fr w0 w' b ∧ x.ownBlock ≠ some b) w' (dfr E d p a b) cs' ∧ Nx w0 v x) := by
  intro d
  induction d with
  | zero => intro wb L R v n cs p ps a b ra rb w0 cx hpp hva hvb hoa; exact hoa.elim
  | succ d ih =>
  intro wb L R v n cs p ps a b ra rb w0 cx hpp hva hvb hoa hob hfa1 hfb hpd hd48 hnb
  obtain ⟨abs, als, afs, rfl, _, hal0, haf0⟩ := id (RepV.open hva)
  obtain ⟨bbs, bls, bfs, rfl, _, hbl0, hbf0⟩ := id (RepV.open hvb)
  obtain ⟨lb, lo, hlsl, hlreps⟩ := hal0
  obtain ⟨la, lc, rfl, hla⟩ := hlsl.form
  have hlget := fun i x h => RepLs.get a.list lo i x hlreps h
  obtain ⟨mb, mo, hmsl, hmreps⟩ := hbl0
  obtain ⟨ma, mc, rfl, hma⟩ := hmsl.form
  have hmget := fun i x h => RepLs.get b.list mo i x hmreps h
  obtain ⟨fb, fo, hfsl, hfreps⟩ := haf0
  obtain ⟨fa, fc, rfl, hfa⟩ := hfsl.form
  have hfget := fun i kv h => RepFs.get a.fields fo i kv hfreps h
  obtain ⟨gb, go, hgsl, hgreps⟩ := hbf0
  obtain ⟨ga, gc, rfl, hga⟩ := hgsl.form
  have hall := hfa1.self.2.2.2.1
  have hafl := hfa1.self.2.2.2.2
  refine ret_enter Try.func58 rfl Try.ntmps58 rfl ?_
  skip
  refine wp_seq ?_
  refine wp_region_lit ?_
  refine s_box cx rfl rfl rfl rfl rfl ?_; intro b6 w cx hb6 hw6
  refine s_box cx rfl rfl rfl rfl rfl ?_; intro b7 w cx hb7 hw7
  refine s_val rfl rfl (v_assign rfl rfl) ?_
  refine wpList_nil ?_
  refine wp_seq ?_
  refine wp_seq ?_
  refine wp_region_lit ?_
  have hK := ((Kp.d0 w0 v).below hw6).below hw7
  refine s_val rfl rfl (v_load rfl rfl Try.underlying33 rfl sz33 (cx.row 1 rfl) rfl) ?_
  refine s_val rfl rfl (v_load rfl rfl Try.underlying33 rfl sz33 (cx.row 0 rfl) rfl) ?_
  refine s_fnB cx (c53 (d + 1) a b _ _ _ (by omega) hoa hob hfa1 hfb (RepV.mono (fun b hb => Nat.lt_of_lt_of_le hb.1 hK.sz) hK.kp _ _ hva) (RepV.mono (fun b hb => Nat.lt_of_lt_of_le hb.1 hK.sz) hK.kp _ _ hvb)) Try.func53 rfl rfl rfl rfl rfl rfl ?_; intro q21 w cx hw21 hp21
  replace hK := hK.below hw21
  refine wpList_nil ?_
  refine c_split rfl (fun hc21 => ?_) (fun hc21 => ?_)
  · skip
    skip
    refine wp_seq ?_
    refine wp_region_lit ?_
    refine s_val rfl rfl (v_move rfl rfl) ?_
    refine s_val rfl rfl (v_assign rfl rfl) ?_
    refine wpList_nil ?_
    refine wp_ret ?_
    refine ret_tmp Try.results58 rfl ?_
    have hd0 : dfr E (d + 1) p a b = [] := by simp only [dfr]; rw [if_pos ((hE a b).2 (hp21.1 hc21))]
    rw [hd0]
    exact ⟨[], (by rw [List.append_nil]; exact cx.drop 2), hK, trivial, Nx.self _ _⟩
  · skip
    skip
    have hne : ¬ canon a = canon b := fun h => by rw [hp21.2 h] at hc21; cases hc21
    refine wp_skip ?_
    refine wp_seq ?_
    refine wp_region_lit ?_
    refine s_val rfl rfl (v_fa fa33_0 rfl rfl) ?_
    refine s_val rfl rfl (v_load1 rfl rfl Try.underlying3 rfl (cx.cell 1 rfl rfl)) ?_
    refine s_val rfl rfl (v_cmp rfl rfl rfl rfl) ?_
    refine s_val rfl rfl (v_move rfl rfl) ?_
    refine s_gval rfl rfl rfl (by first | exact w_tt rfl | exact w_gt rfl) (fun hc => v_fa fa33_0 rfl (by first | exact gve hc rfl | exact gve (and_l hc) rfl | exact gve (and_l (and_l hc)) rfl | rfl)) ?_
    refine s_gval rfl rfl rfl (by first | exact w_tt rfl | exact w_gt rfl) (fun hc => v_load1 rfl (by first | exact gve hc rfl | exact gve (and_l hc) rfl | exact gve (and_l (and_l hc)) rfl | rfl) Try.underlying3 rfl (cx.cell 0 rfl rfl)) ?_
    refine s_gval rfl rfl rfl (by first | exact w_tt rfl | exact w_gt rfl) (fun hc => v_cmp rfl (by first | exact gve hc rfl | exact gve (and_l hc) rfl | exact gve (and_l (and_l hc)) rfl | rfl) rfl rfl) ?_
    refine s_val rfl rfl (v_and rfl rfl rfl rfl) ?_
    refine s_val rfl rfl (v_move rfl rfl) ?_
    refine s_gval rfl rfl rfl (by first | exact w_tt rfl | exact w_gt rfl) (fun hc => v_fa fa33_7 rfl (by first | exact gve hc rfl | exact gve (and_l hc) rfl | exact gve (and_l (and_l hc)) rfl | rfl)) ?_
    refine s_gval rfl rfl rfl (by first | exact w_tt rfl | exact w_gt rfl) (fun hc => v_load1 rfl (by first | exact gve hc rfl | exact gve (and_l hc) rfl | exact gve (and_l (and_l hc)) rfl | rfl) Try.underlying31 rfl (cx.cell 1 rfl rfl)) ?_
    refine s_gval rfl rfl rfl (by first | exact w_tt rfl | exact w_gt rfl) (fun hc => v_lenSlice rfl (by first | exact gve hc rfl | exact gve (and_l hc) rfl | exact gve (and_l (and_l hc)) rfl | rfl) Try.underlying31) ?_
    refine s_gval rfl rfl rfl (by first | exact w_tt rfl | exact w_gt rfl) (fun hc => v_fa fa33_7 rfl (by first | exact gve hc rfl | exact gve (and_l hc) rfl | exact gve (and_l (and_l hc)) rfl | rfl)) ?_
    refine s_gval rfl rfl rfl (by first | exact w_tt rfl | exact w_gt rfl) (fun hc => v_load1 rfl (by first | exact gve hc rfl | exact gve (and_l hc) rfl | exact gve (and_l (and_l hc)) rfl | rfl) Try.underlying31 rfl (cx.cell 0 rfl rfl)) ?_
    refine s_gval rfl rfl rfl (by first | exact w_tt rfl | exact w_gt rfl) (fun hc => v_lenSlice rfl (by first | exact gve hc rfl | exact gve (and_l hc) rfl | exact gve (and_l (and_l hc)) rfl | rfl) Try.underlying31) ?_
    refine s_gval rfl rfl rfl (by first | exact w_tt rfl | exact w_gt rfl) (fun hc => v_cmp rfl (by first | exact gve hc rfl | exact gve (and_l hc) rfl | exact gve (and_l (and_l hc)) rfl | rfl) (by first | exact gve hc rfl | exact gve (and_l hc) rfl | exact gve (and_l (and_l hc)) rfl | rfl) rfl) ?_
    refine s_val rfl rfl (v_and rfl rfl rfl rfl) ?_
    refine s_val rfl rfl (v_assign rfl rfl) ?_
    refine wpList_nil ?_
    refine wp_seq ?_
    refine wp_seq ?_
    refine wp_region_lit ?_
    refine s_val rfl rfl (v_fa fa33_7 rfl rfl) ?_
    refine s_val rfl rfl (v_load1 rfl rfl Try.underlying31 rfl (cx.cell 1 rfl rfl)) ?_
    refine s_val rfl rfl (v_lenSlice rfl rfl Try.underlying31) ?_
    refine s_val rfl rfl (v_move rfl rfl) ?_
    refine wpList_nil ?_
    refine wp_block ?_
    refine w_loop (fun k f w1 => ∃ i : Nat, k + i = a.fields.length ∧ f 0 = v ∧ f 1 = ps ∧ f 6 = .pointer (some ⟨b6, 0, none⟩) ∧ f 7 = .pointer (some ⟨b7, 0, none⟩) ∧ f 9 = .bool (a.sc.kind == 7 && b.sc.kind == 7 && (a.fields.length : Int) == (b.fields.length : Int) && (a.fields.take i).all (fun kv => (hasF kv.1 b.fields).isSome)) ∧ f 41 = .slice fa a.fields.length fc ∧ f 42 = .int .i64 a.fields.length ∧ f 43 = .int .i64 i ∧ Cxr wb w1 ((b7, .cells (vrow b.sc bbs (.slice ma b.list.length mc) (.slice ga b.fields.length gc)).toArray 33) :: (b6, .cells (vrow a.sc abs (.slice la a.list.length lc) (.slice fa a.fields.length fc)).toArray 33) :: L) (⟨24, 1, v, n, cs⟩ :: R) ∧ Kp (D0 w0 v) w0 w1) (a.fields.length) ?_ ?_
    · skip
      exact ⟨0, by omega, rfl, rfl, rfl, rfl, by show Value.bool _ = _; simp, rfl, rfl, rfl, cx, hK⟩
    intro gk5 f w hJ
    obtain ⟨i, hki, hs0, hs1, hs6, hs7, hs9, hs41, hs42, hs43, cx, hK⟩ := hJ
    refine wp_seq ?_
    refine wp_region_lit ?_
    refine s_val rfl rfl (v_cmp rfl hs43 hs42 rfl) ?_
    refine wpList_nil ?_
    refine wp_seq ?_
    refine c_split rfl (fun hc44 => ?_) (fun hc44 => ?_)
    · skip
      try simp only [Bool.and_eq_true, Bool.or_eq_true, Bool.and_eq_false_iff, Bool.or_eq_false_iff, Bool.not_eq_true', Bool.not_eq_false', decide_eq_true_eq, decide_eq_false_iff_not, beq_iff_eq, beq_eq_false_iff_ne, bne_iff_ne, bne_eq_false_iff_eq, ne_eq, Classical.not_not] at hc44
      obtain rfl := hfa (by omega)
      obtain ⟨r, hr, hrv⟩ := hfget i a.fields[i] (List.getElem?_eq_getElem (by omega))
      obtain ⟨ebs, els, efs, rfl, _⟩ := hrv.open
      have hrA := hfsl.inA (by omega)
      have hQ := Kp.d0 w v
      have hNx := Nx.self w0 v
      have hlz := hrv.len
      refine wp_skip ?_
      refine wp_seq ?_
      refine wp_block ?_
      refine wp_seq ?_
      refine wp_region_lit ?_
      refine s_val rfl rfl (v_ia Try.underlying31 sz77 rfl hs41 hs43 (by omega) (by omega)) ?_
      refine s_val rfl rfl (v_load rfl rfl Try.underlying77 rfl sz77 (hr.keep (hK.kp _ hrA)) rfl) ?_
      refine s_alloc cx z77 rfl rfl rfl ?_; intro b11 w cx hb11 hw11
      refine s_storeAllG cx 0 rfl rfl rfl rfl rfl rfl sz77 rfl (by exact hrv.one) ?_; intro w cx hg11
      replace hQ := (hQ.below hw11).later hg11 (Nat.le_of_eq hb11)
      refine wpList_nil ?_
      refine wp_seq ?_
      refine wp_region_lit ?_
      refine s_val rfl rfl (v_load rfl hs7 Try.underlying33 rfl sz33 (cx.row 1 rfl) rfl) ?_
      refine s_val rfl rfl (v_fa fa77_0 rfl rfl) ?_
      refine s_val rfl rfl (v_load1 rfl rfl Try.underlying9 rfl (cx.cell 0 rfl rfl)) ?_
      have cx51b := cx
      refine s_fn cx (c80g 48 b _ a.fields[i].1 _ (deep_mono _ _ _ (deep_of_okd _ _ hob) (by omega)) (by omega) (RepV.mono (fun b hb => Nat.lt_of_lt_of_le hb.1 (hK.d0step hQ hNx).sz) (hK.d0step hQ hNx).kp _ _ hvb) hfb (by
        by_cases h7 : b.sc.kind = 7
        · exact .inl h7
        · exact .inr (List.eq_nil_of_length_eq_zero (hob.1.fields h7)))) Try.func80 rfl rfl rfl rfl rfl rfl ?_; intro q51 w cx hw51 hp51
      obtain ⟨l51, bb51, rfl, hl51, ho51, hm51⟩ := hp51
      replace hQ := hQ.below hw51
      have hbb : bb51 = (hasF a.fields[i].1 b.fields).isSome := by
        cases hh : hasF a.fields[i].1 b.fields with
        | none => rw [hh] at hm51; exact hm51
        | some u => rw [hh] at hm51; exact hm51.1
      refine s_val rfl rfl (v_move rfl rfl) ?_
      refine s_val rfl rfl (v_extract rfl rfl rfl) ?_
      refine s_val rfl rfl (v_extract rfl rfl rfl) ?_
      refine s_alloc cx z33 rfl rfl rfl ?_; intro b12 w cx hb12 hw12
      have hl12 := Nat.le_trans hQ.sz (Nat.le_of_eq hb12)
      refine s_storeAllG cx 0 rfl rfl rfl rfl rfl rfl (by rw [hl51]; exact sz33) (by rw [hl51]; rfl) ho51 ?_; intro w cx hg12
      replace hQ := (hQ.below hw12).later hg12 hl12
      refine s_val rfl rfl (v_assign rfl rfl) ?_
      refine wpList_nil ?_
      refine wp_region_lit ?_
      refine s_val rfl rfl (v_move rfl hs9) ?_
      refine s_val rfl rfl (v_move rfl rfl) ?_
      refine s_gval rfl rfl rfl (by first | exact w_tt rfl | exact w_gt rfl) (fun hc => v_move rfl (by first | exact gve hc rfl | exact gve (and_l hc) rfl | exact gve (and_l (and_l hc)) rfl | rfl)) ?_
      refine s_val rfl rfl (v_and rfl rfl rfl rfl) ?_
      refine s_val rfl rfl (v_assign rfl rfl) ?_
      refine wpList_nil ?_
      refine wp_region_lit ?_
      refine s_val rfl rfl (v_add rfl hs43 rfl (by omega) (by omega)) ?_
      refine s_val rfl rfl (v_move rfl rfl) ?_
      refine wpList_nil ?_
      refine ⟨gk5 - 1, _, by omega, rfl, i + 1, by omega, hs0, hs1, hs6, hs7, ?_, hs41, hs42, rfl, cx.drop 2, hK.d0step hQ hNx⟩
      rw [List.take_succ_eq_append_getElem (by omega), List.all_append]
      show Value.bool _ = _
      simp [hbb, Bool.and_assoc]
    · skip
      try simp only [Bool.and_eq_true, Bool.or_eq_true, Bool.and_eq_false_iff, Bool.or_eq_false_iff, Bool.not_eq_true', Bool.not_eq_false', decide_eq_true_eq, decide_eq_false_iff_not, beq_iff_eq, beq_eq_false_iff_ne, bne_iff_ne, bne_eq_false_iff_eq, ne_eq, Classical.not_not] at hc44
      refine wp_exit ?_
      refine wp_seq ?_
      refine wp_seq ?_
      refine wp_region_lit ?_
      refine s_val rfl rfl (v_move rfl hs9) ?_
      refine wpList_nil ?_
      refine c_split rfl (fun hc59 => ?_) (fun hc59 => ?_)
      · skip
        skip
        have hi : i = a.fields.length := by omega
        have hal : alike a b = true := by
          unfold alike
          rw [hi, List.take_of_length_le (Nat.le_refl _)] at hc59
          exact hc59
        have hdf : dfr E (d + 1) p a b = a.fields.flatMap (fun kv : ByteArray × V => dfr E d (p ++ [keyS kv.1]) kv.2 ((hasF kv.1 b.fields).getD nulV)) := by
          simp only [dfr]; rw [if_neg (fun h => hne ((hE a b).1 h)), if_pos hal]
        rw [hdf] at hnb
        refine wp_seq ?_
        refine wp_seq ?_
        refine wp_region_lit ?_
        refine s_val rfl rfl (v_fa fa33_7 rfl hs6) ?_
        refine s_val rfl rfl (v_load1 rfl rfl Try.underlying31 rfl (cx.cell 1 rfl rfl)) ?_
        refine s_val rfl rfl (v_lenSlice rfl rfl Try.underlying31) ?_
        refine s_val rfl rfl (v_move rfl rfl) ?_
        refine wpList_nil ?_
        refine wp_block ?_
        refine w_loop (fun k f w1 => ∃ (i : Nat) (x : Value) (cs' : List Value), k + i = a.fields.length ∧ f 0 = x ∧ f 1 = ps ∧ f 6 = .pointer (some ⟨b6, 0, none⟩) ∧ f 7 = .pointer (some ⟨b7, 0, none⟩) ∧ f 61 = .slice fa a.fields.length fc ∧ f 62 = .int .i64 a.fields.length ∧ f 63 = .int .i64 i ∧ Cxr wb w1 ((b7, .cells (vrow b.sc bbs (.slice ma b.list.length mc) (.slice ga b.fields.length gc)).toArray 33) :: (b6, .cells (vrow a.sc abs (.slice la a.list.length lc) (.slice fa a.fields.length fc)).toArray 33) :: L) (⟨24, 1, x, n + ((a.fields.take i).flatMap (fun kv : ByteArray × V => dfr E d (p ++ [keyS kv.1]) kv.2 ((hasF kv.1 b.fields).getD nulV))).length, cs ++ cs'⟩ :: R) ∧ Kp (D0 w0 v) w0 w1 ∧ Nx w0 v x ∧ PthsC (fun b => Fr w0 w1 b ∧ x.ownBlock ≠ some b) w1 ((a.fields.take i).flatMap (fun kv : ByteArray × V => dfr E d (p ++ [keyS kv.1]) kv.2 ((hasF kv.1 b.fields).getD nulV))) cs') (a.fields.length) ?_ ?_
        · skip
          exact ⟨0, v, [], by omega, hs0, hs1, hs6, hs7, rfl, rfl, rfl, by simpa using cx, hK, Nx.self _ _, trivial⟩
        intro gk12 f w hJ
        obtain ⟨i, x, cs', hki, hs0, hs1, hs6, hs7, hs61, hs62, hs63, cx, hK, hNx, hcs⟩ := hJ
        refine wp_seq ?_
        refine wp_region_lit ?_
        refine s_val rfl rfl (v_cmp rfl hs63 hs62 rfl) ?_
        refine wpList_nil ?_
        refine wp_seq ?_
        refine c_split rfl (fun hc64 => ?_) (fun hc64 => ?_)
        · skip
          try simp only [Bool.and_eq_true, Bool.or_eq_true, Bool.and_eq_false_iff, Bool.or_eq_false_iff, Bool.not_eq_true', Bool.not_eq_false', decide_eq_true_eq, decide_eq_false_iff_not, beq_iff_eq, beq_eq_false_iff_ne, bne_iff_ne, bne_eq_false_iff_eq, ne_eq, Classical.not_not] at hc64
          obtain rfl := hfa (by omega)
          obtain ⟨r, hr, hrv⟩ := hfget i a.fields[i] (List.getElem?_eq_getElem (by omega))
          obtain ⟨ebs, els, efs, rfl, _⟩ := hrv.open
          have hrA := hfsl.inA (by omega)
          have hQ := Kp.d0 w x
          obtain ⟨wk, rfl⟩ : ∃ y, y = w := ⟨_, rfl⟩
          have hlz := hrv.len
          have hkm : a.fields[i] ∈ a.fields := List.getElem_mem _
          have hbl := fm_len (g := (fun kv : ByteArray × V => dfr E d (p ++ [keyS kv.1]) kv.2 ((hasF kv.1 b.fields).getD nulV))) (show i < a.fields.length by omega)
          have hsome : (hasF a.fields[i].1 b.fields).isSome = true := by
            unfold alike at hal
            simp only [Bool.and_eq_true, List.all_eq_true] at hal
            exact hal.2 _ hkm
          refine wp_skip ?_
          refine wp_seq ?_
          refine wp_block ?_
          refine wp_seq ?_
          refine wp_region_lit ?_
          refine s_val rfl rfl (v_ia Try.underlying31 sz77 rfl hs61 hs63 (by omega) (by omega)) ?_
          refine s_val rfl rfl (v_load rfl rfl Try.underlying77 rfl sz77 (hr.keep (hK.kp _ hrA)) rfl) ?_
          refine s_alloc cx z77 rfl rfl rfl ?_; intro b15 w cx hb15 hw15
          refine s_storeAllG cx 0 rfl rfl rfl rfl rfl rfl sz77 rfl (by exact hrv.one) ?_; intro w cx hg15
          replace hQ := (hQ.below hw15).later hg15 (Nat.le_of_eq hb15)
          refine wpList_nil ?_
          refine wp_seq ?_
          refine wp_region_lit ?_
          refine s_val rfl rfl (v_load rfl hs7 Try.underlying33 rfl sz33 (cx.row 1 rfl) rfl) ?_
          refine s_val rfl rfl (v_fa fa77_0 rfl rfl) ?_
          refine s_val rfl rfl (v_load1 rfl rfl Try.underlying9 rfl (cx.cell 0 rfl rfl)) ?_
          obtain ⟨w70, hw70⟩ : ∃ y, y = w := ⟨_, rfl⟩
          subst hw70
          have cx71b := cx
          refine s_fn cx (c80g 48 b _ a.fields[i].1 _ (deep_mono _ _ _ (deep_of_okd _ _ hob) (by omega)) (by omega) (RepV.mono (fun b hb => Nat.lt_of_lt_of_le hb.1 (hK.d0step hQ hNx).sz) (hK.d0step hQ hNx).kp _ _ hvb) hfb (by
            by_cases h7 : b.sc.kind = 7
            · exact .inl h7
            · exact .inr (List.eq_nil_of_length_eq_zero (hob.1.fields h7)))) Try.func80 rfl rfl rfl rfl rfl rfl ?_; intro q71 w cx hw71 hp71
          obtain ⟨l71, bb71, rfl, hl71, ho71, hm71⟩ := hp71
          replace hQ := hQ.below hw71
          have hbb : bb71 = (hasF a.fields[i].1 b.fields).isSome := by
            cases hh : hasF a.fields[i].1 b.fields with
            | none => rw [hh] at hm71; exact hm71
            | some u => rw [hh] at hm71; exact hm71.1
          obtain ⟨u, hu⟩ : ∃ u, hasF a.fields[i].1 b.fields = some u := Option.isSome_iff_exists.1 hsome
          rw [hu] at hm71
          obtain ⟨r71, hr71, hv71⟩ := hm71.2.rep
          obtain rfl : l71 = r71 := by simpa using hr71
          obtain ⟨w71, hw71e⟩ : ∃ y, y = w := ⟨_, rfl⟩
          subst hw71e
          have hKf := Kp.fr hw71
          refine s_val rfl rfl (v_move rfl rfl) ?_
          refine s_val rfl rfl (v_extract rfl rfl rfl) ?_
          refine s_val rfl rfl (v_extract rfl rfl rfl) ?_
          refine s_alloc cx z33 rfl rfl rfl ?_; intro b16 w cx hb16 hw16
          have hl16 := Nat.le_trans hQ.sz (Nat.le_of_eq hb16)
          refine s_storeAllG cx 0 rfl rfl rfl rfl rfl rfl (by rw [hl71]; exact sz33) (by rw [hl71]; rfl) ho71 ?_; intro w cx hg16
          replace hQ := (hQ.below hw16).later hg16 hl16
          replace hKf := (hKf.below hw16).later hg16 (Nat.le_of_eq hb16)
          refine s_val rfl rfl (v_assign rfl rfl) ?_
          refine wpList_nil ?_
          refine w_ord cx (cx.pick2 1 0 rfl rfl rfl) mixed [(0, 74), (1, 75), (2, 76), (3, 77), (6, 80), (7, 81), (8, 82)] #[true, true, true, true, false, false, true, true, true, false, false] (by kernel_rfl) (by kernel_rfl) (by kernel_rfl) (by kernel_rfl) ?_
          refine pu_one rfl (wnt_none rfl) (fun w cx => v_move rfl hs0) ?_
          refine pu_one rfl (wnt_none rfl) (fun w cx => v_move rfl hs1) ?_
          refine pu_one rfl (wnt_none rfl) (fun w cx => v_fa fa77_0 rfl rfl) ?_
          refine pu_one rfl (wnt_none rfl) (fun w cx => v_load1 rfl rfl Try.underlying9 rfl ((cx.row 0 rfl).cell 0 rfl)) ?_
          refine pu_one rfl (wnt_none rfl) (fun w cx => v_fa fa77_1 rfl rfl) ?_
          refine pu_one rfl (wnt_none rfl) (fun w cx => v_load rfl rfl Try.underlying33 rfl sz33 ((cx.row 0 rfl).tail) rfl) ?_
          refine pu_one rfl (wnt_none rfl) (fun w cx => v_load rfl rfl Try.underlying33 rfl sz33 (cx.row 1 rfl) hl71) ?_
          refine pu_nil ?_; intro w cx hwD15
          replace hQ := hQ.below hwD15
          replace hKf := hKf.below hwD15
          refine x_one (i := 4) (by kernel_rfl) rfl ?_
          refine s_fn cx (c82 a.fields[i].1 _) Try.func82 rfl rfl rfl rfl rfl rfl ?_; intro q78 w cx hw78 hp78
          subst hp78
          replace hQ := hQ.below hw78
          replace hKf := hKf.below hw78
          refine x_next ⟨.inl (cx.pick2 1 0 rfl rfl rfl), ?_⟩
          refine x_one (i := 5) (by kernel_rfl) rfl ?_
          have cx79b := cx
          refine s_fn cx (c81 (keyS a.fields[i].1) (D0 w x) p ps _ (fun b hb => hb.1) (hpp.mono (D0.up (hK.d0step hQ hNx).sz hNx) (hK.d0step hQ hNx).kp) (by omega)) Try.func81 rfl rfl rfl rfl rfl rfl ?_; intro q79 w cx hw79 hp79
          replace hQ := hQ.below hw79
          replace hKf := hKf.below hw79
          refine x_next ⟨.inl (cx.pick2 1 0 rfl rfl rfl), ?_⟩
          refine x_one (i := 9) (by kernel_rfl) rfl ?_
          have cxc := cx
          have hKc := hK.d0step hQ hNx
          obtain ⟨w82, hw82⟩ : ∃ y, y = w := ⟨_, rfl⟩
          subst hw82
          refine s_callR rfl rfl (runs_fn Try.func58 rfl rfl rfl rfl) (ih wb _ R x _ _ (p ++ [keyS a.fields[i].1]) _ a.fields[i].2 u _ _ _ cx (hp79.mono (fun b hb => ⟨hb.2, fun e => by have := (Made_lt cx79b.head b e).2; have := hb.1; omega⟩) (fun _ _ => rfl)) (RepV.mono (D0.up hKc.sz hNx) hKc.kp _ _ hrv) (RepV.mono (fun b hb => ⟨Nat.lt_of_lt_of_le hb.2 hKf.sz, fun e => by have := (Made_lt cx71b.head b e).2; have := hb.1; omega⟩) hKf.kp _ _ hv71) (hoa.2.2.2 _ hkm) (hob.2.2.2 _ (hasF_mem hu)) (hfa1.field hkm).2 (hfb.field (hasF_mem hu)).2 (by rw [List.length_append, List.length_singleton]; omega) (by omega) (by rw [hu] at hbl; simp only [Option.getD_some] at hbl; omega)) ?_; intro q83 w hp83
          obtain ⟨cs2, cx, hq2, hps2, hnx2⟩ := hp83
          have hQ2 := hQ.d0step hq2 (Nx.self _ _)
          have hG : dfr E d (p ++ [keyS a.fields[i].1]) a.fields[i].2 ((hasF a.fields[i].1 b.fields).getD nulV) = dfr E d (p ++ [keyS a.fields[i].1]) a.fields[i].2 u := by simp only [hu, Option.getD_some]
          refine x_next ⟨.inr (by kernel_rfl), ?_⟩
          refine x_one (i := 10) (by kernel_rfl) rfl ?_
          refine s_val rfl rfl (v_assign rfl rfl) ?_
          refine x_next ⟨.inr (by kernel_rfl), ?_⟩
          refine x_done (by kernel_rfl) ?_
          refine wp_region_lit ?_
          refine s_val rfl rfl (v_add rfl hs63 rfl (by omega) (by omega)) ?_
          refine s_val rfl rfl (v_move rfl rfl) ?_
          refine wpList_nil ?_
          refine ⟨gk12 - 1, _, by omega, rfl, i + 1, q83, cs' ++ cs2, by omega, rfl, hs1, hs6, hs7, hs61, hs62, rfl, ?_, hK.d0step hQ2 hNx, hNx.trans hnx2 hKc.sz, ?_⟩
          · rw [fm_take (by omega), List.length_append, hG, ← Nat.add_assoc, ← List.append_assoc]
            exact cx.drop 2
          · rw [fm_take (by omega), hG]
            exact PthsC.append _ _ _ _ (hcs.d0 hQ2 (fun q hq => (hnx2 q hq).imp id (fun h => Nat.le_trans hQ.sz h))) (PthsC.mono (fun b hb => ⟨⟨Nat.le_trans hKc.sz hb.1.1, hb.1.2⟩, hb.2⟩) (fun _ _ => rfl) _ _ hps2)
        · skip
          try simp only [Bool.and_eq_true, Bool.or_eq_true, Bool.and_eq_false_iff, Bool.or_eq_false_iff, Bool.not_eq_true', Bool.not_eq_false', decide_eq_true_eq, decide_eq_false_iff_not, beq_iff_eq, beq_eq_false_iff_ne, bne_iff_ne, bne_eq_false_iff_eq, ne_eq, Classical.not_not] at hc64
          refine wp_exit ?_
          refine wp_seq ?_
          refine wp_region_lit ?_
          refine s_val rfl rfl (v_move rfl hs0) ?_
          refine s_val rfl rfl (v_assign rfl rfl) ?_
          refine wpList_nil ?_
          refine wp_ret ?_
          refine ret_tmp Try.results58 rfl ?_
          have hi : i = a.fields.length := by omega
          subst hi
          rw [List.take_of_length_le (Nat.le_refl _)] at cx hcs
          rw [hdf]
          exact ⟨cs', cx.drop 2, hK, hcs, hNx⟩
      · skip
        skip
        have hi : i = a.fields.length := by omega
        have hal : alike a b = false := by
          unfold alike
          rw [hi, List.take_of_length_le (Nat.le_refl _)] at hc59
          exact hc59
        refine wp_skip ?_
        refine wp_seq ?_
        refine wp_seq ?_
        refine wp_region_lit ?_
        refine s_val rfl rfl (v_fa fa33_0 rfl hs6) ?_
        refine s_val rfl rfl (v_load1 rfl rfl Try.underlying3 rfl (cx.cell 1 rfl rfl)) ?_
        refine s_val rfl rfl (v_cmp rfl rfl rfl rfl) ?_
        refine s_val rfl rfl (v_move rfl rfl) ?_
        refine s_gval rfl rfl rfl (by first | exact w_tt rfl | exact w_gt rfl) (fun hc => v_fa fa33_0 rfl hs7) ?_
        refine s_gval rfl rfl rfl (by first | exact w_tt rfl | exact w_gt rfl) (fun hc => v_load1 rfl (by first | exact gve hc rfl | exact gve (and_l hc) rfl | exact gve (and_l (and_l hc)) rfl | rfl) Try.underlying3 rfl (cx.cell 0 rfl rfl)) ?_
        refine s_gval rfl rfl rfl (by first | exact w_tt rfl | exact w_gt rfl) (fun hc => v_cmp rfl (by first | exact gve hc rfl | exact gve (and_l hc) rfl | exact gve (and_l (and_l hc)) rfl | rfl) rfl rfl) ?_
        refine s_val rfl rfl (v_and rfl rfl rfl rfl) ?_
        refine s_val rfl rfl (v_move rfl rfl) ?_
        refine s_gval rfl rfl rfl (by first | exact w_tt rfl | exact w_gt rfl) (fun hc => v_fa fa33_6 rfl hs6) ?_
        refine s_gval rfl rfl rfl (by first | exact w_tt rfl | exact w_gt rfl) (fun hc => v_load1 rfl (by first | exact gve hc rfl | exact gve (and_l hc) rfl | exact gve (and_l (and_l hc)) rfl | rfl) Try.underlying30 rfl (cx.cell 1 rfl rfl)) ?_
        refine s_gval rfl rfl rfl (by first | exact w_tt rfl | exact w_gt rfl) (fun hc => v_lenSlice rfl (by first | exact gve hc rfl | exact gve (and_l hc) rfl | exact gve (and_l (and_l hc)) rfl | rfl) Try.underlying30) ?_
        refine s_gval rfl rfl rfl (by first | exact w_tt rfl | exact w_gt rfl) (fun hc => v_fa fa33_6 rfl hs7) ?_
        refine s_gval rfl rfl rfl (by first | exact w_tt rfl | exact w_gt rfl) (fun hc => v_load1 rfl (by first | exact gve hc rfl | exact gve (and_l hc) rfl | exact gve (and_l (and_l hc)) rfl | rfl) Try.underlying30 rfl (cx.cell 0 rfl rfl)) ?_
        refine s_gval rfl rfl rfl (by first | exact w_tt rfl | exact w_gt rfl) (fun hc => v_lenSlice rfl (by first | exact gve hc rfl | exact gve (and_l hc) rfl | exact gve (and_l (and_l hc)) rfl | rfl) Try.underlying30) ?_
        refine s_gval rfl rfl rfl (by first | exact w_tt rfl | exact w_gt rfl) (fun hc => v_cmp rfl (by first | exact gve hc rfl | exact gve (and_l hc) rfl | exact gve (and_l (and_l hc)) rfl | rfl) (by first | exact gve hc rfl | exact gve (and_l hc) rfl | exact gve (and_l (and_l hc)) rfl | rfl) rfl) ?_
        refine s_val rfl rfl (v_and rfl rfl rfl rfl) ?_
        refine wpList_nil ?_
        refine c_split rfl (fun hc102 => ?_) (fun hc102 => ?_)
        · skip
          skip
          have hll : lalike a b = true := hc102
          have hdf : dfr E (d + 1) p a b = (List.range a.list.length).flatMap (fun i : Nat => dfr E d (p ++ [idxS i]) (a.list.getD i nulV) (b.list.getD i nulV)) := by
            simp only [dfr]; rw [if_neg (fun h => hne ((hE a b).1 h)), if_neg (by rw [hal]; simp), if_pos hll]
          rw [hdf] at hnb
          have hlen : a.list.length = b.list.length := by
            unfold lalike at hll
            simp only [Bool.and_eq_true, beq_iff_eq] at hll
            omega
          refine wp_seq ?_
          refine wp_seq ?_
          refine wp_region_lit ?_
          refine s_val rfl rfl (v_fa fa33_6 rfl hs6) ?_
          refine s_val rfl rfl (v_load1 rfl rfl Try.underlying30 rfl (cx.cell 1 rfl rfl)) ?_
          refine s_val rfl rfl (v_lenSlice rfl rfl Try.underlying30) ?_
          refine s_val rfl rfl (v_move rfl rfl) ?_
          refine wpList_nil ?_
          refine wp_block ?_
          refine w_loop (fun k f w1 => ∃ (i : Nat) (x : Value) (cs' : List Value), k + i = a.list.length ∧ f 0 = x ∧ f 1 = ps ∧ f 6 = .pointer (some ⟨b6, 0, none⟩) ∧ f 7 = .pointer (some ⟨b7, 0, none⟩) ∧ f 104 = .slice la a.list.length lc ∧ f 105 = .int .i64 a.list.length ∧ f 106 = .int .i64 i ∧ Cxr wb w1 ((b7, .cells (vrow b.sc bbs (.slice ma b.list.length mc) (.slice ga b.fields.length gc)).toArray 33) :: (b6, .cells (vrow a.sc abs (.slice la a.list.length lc) (.slice fa a.fields.length fc)).toArray 33) :: L) (⟨24, 1, x, n + ((List.range i).flatMap (fun i : Nat => dfr E d (p ++ [idxS i]) (a.list.getD i nulV) (b.list.getD i nulV))).length, cs ++ cs'⟩ :: R) ∧ Kp (D0 w0 v) w0 w1 ∧ Nx w0 v x ∧ PthsC (fun b => Fr w0 w1 b ∧ x.ownBlock ≠ some b) w1 ((List.range i).flatMap (fun i : Nat => dfr E d (p ++ [idxS i]) (a.list.getD i nulV) (b.list.getD i nulV))) cs') (a.list.length) ?_ ?_
          · skip
            exact ⟨0, v, [], by omega, hs0, hs1, hs6, hs7, rfl, rfl, rfl, by simpa using cx, hK, Nx.self _ _, trivial⟩
          intro gk20 f w hJ
          obtain ⟨i, x, cs', hki, hs0, hs1, hs6, hs7, hs104, hs105, hs106, cx, hK, hNx, hcs⟩ := hJ
          refine wp_seq ?_
          refine wp_region_lit ?_
          refine s_val rfl rfl (v_cmp rfl hs106 hs105 rfl) ?_
          refine wpList_nil ?_
          refine wp_seq ?_
          refine c_split rfl (fun hc107 => ?_) (fun hc107 => ?_)
          · skip
            try simp only [Bool.and_eq_true, Bool.or_eq_true, Bool.and_eq_false_iff, Bool.or_eq_false_iff, Bool.not_eq_true', Bool.not_eq_false', decide_eq_true_eq, decide_eq_false_iff_not, beq_iff_eq, beq_eq_false_iff_ne, bne_iff_ne, bne_eq_false_iff_eq, ne_eq, Classical.not_not] at hc107
            obtain rfl := hla (by omega)
            obtain rfl := hma (by omega)
            have hge1 : a.list[i]? = some a.list[i] := List.getElem?_eq_getElem (by omega)
            have hge2 : b.list[i]? = some b.list[i] := List.getElem?_eq_getElem (by omega)
            obtain ⟨r1, hr1, hrv1⟩ := hlget i _ hge1
            obtain ⟨r2, hr2, hrv2⟩ := hmget i _ hge2
            have hrA1 := hlsl.inA (by omega)
            have hrA2 := hmsl.inA (by omega)
            have hQ := Kp.d0 w x
            obtain ⟨wk, rfl⟩ : ∃ y, y = w := ⟨_, rfl⟩
            have hbl := rg_len (g := (fun i : Nat => dfr E d (p ++ [idxS i]) (a.list.getD i nulV) (b.list.getD i nulV))) (show i < a.list.length by omega)
            have hgd1 : a.list.getD i nulV = a.list[i] := by rw [List.getD, hge1]; rfl
            have hgd2 : b.list.getD i nulV = b.list[i] := by rw [List.getD, hge2]; rfl
            simp only [hgd1, hgd2] at hbl
            refine wp_skip ?_
            refine wp_seq ?_
            refine wp_block ?_
            refine wp_seq ?_
            refine wp_region_lit ?_
            refine s_val rfl rfl (v_move rfl hs106) ?_
            refine s_val rfl rfl (v_assign rfl rfl) ?_
            refine wpList_nil ?_
            refine w_ordK cx (cx.pick2 1 0 rfl rfl rfl) (hK.d0step hQ hNx).kp mixed [(0, 109), (1, 110), (2, 111), (5, 114), (6, 115), (7, 116), (8, 117), (9, 118), (10, 119), (11, 120), (12, 121), (13, 122), (14, 123)] #[true, true, true, false, false, true, true, true, true, true, true, true, true, true, true, false, false] (by kernel_rfl) (by kernel_rfl) (by kernel_rfl) (by kernel_rfl) ?_
            refine pu_one rfl (wnt_none rfl) (fun w hS => by obtain ⟨cx, hkS⟩ := hS; exact v_move rfl hs0) ?_
            refine pu_one rfl (wnt_none rfl) (fun w hS => by obtain ⟨cx, hkS⟩ := hS; exact v_move rfl hs1) ?_
            refine pu_one rfl (wnt_none rfl) (fun w hS => by obtain ⟨cx, hkS⟩ := hS; exact v_move rfl rfl) ?_
            refine pu_one rfl (wnt_none rfl) (fun w hS => by obtain ⟨cx, hkS⟩ := hS; exact v_fa fa33_6 rfl hs6) ?_
            refine pu_one rfl (wnt_none rfl) (fun w hS => by obtain ⟨cx, hkS⟩ := hS; exact v_load1 rfl rfl Try.underlying30 rfl (cx.cell 0 rfl rfl)) ?_
            refine pu_one rfl (wnt_none rfl) (fun w hS => by obtain ⟨cx, hkS⟩ := hS; exact v_move rfl rfl) ?_
            refine pu_one rfl (wnt_none rfl) (fun w hS => by obtain ⟨cx, hkS⟩ := hS; exact v_ia Try.underlying30 sz33 rfl rfl rfl (by omega) (by omega)) ?_
            refine pu_one rfl (wnt_none rfl) (fun w hS => by obtain ⟨cx, hkS⟩ := hS; exact v_load rfl rfl Try.underlying33 rfl sz33 (hr1.keep (hkS _ hrA1)) hrv1.len) ?_
            refine pu_one rfl (wnt_none rfl) (fun w hS => by obtain ⟨cx, hkS⟩ := hS; exact v_fa fa33_6 rfl hs7) ?_
            refine pu_one rfl (wnt_none rfl) (fun w hS => by obtain ⟨cx, hkS⟩ := hS; exact v_load1 rfl rfl Try.underlying30 rfl (cx.cell 1 rfl rfl)) ?_
            refine pu_one rfl (wnt_none rfl) (fun w hS => by obtain ⟨cx, hkS⟩ := hS; exact v_move rfl rfl) ?_
            refine pu_one rfl (wnt_none rfl) (fun w hS => by obtain ⟨cx, hkS⟩ := hS; exact v_ia Try.underlying30 sz33 rfl rfl rfl (by omega) (by omega)) ?_
            refine pu_one rfl (wnt_none rfl) (fun w hS => by obtain ⟨cx, hkS⟩ := hS; exact v_load rfl rfl Try.underlying33 rfl sz33 (hr2.keep (hkS _ hrA2)) hrv2.len) ?_
            refine pu_nil ?_; intro w cx hwD22 hkS22
            replace hQ := hQ.below hwD22
            refine x_one (i := 3) (by kernel_rfl) rfl ?_
            refine s_fn cx (c83 i _) Try.func83 rfl rfl rfl rfl rfl rfl ?_; intro q112 w cx hw112 hp112
            subst hp112
            replace hQ := hQ.below hw112
            refine x_next ⟨.inl ⟨cx.pick2 1 0 rfl rfl rfl, (hK.d0step hQ hNx).kp⟩, ?_⟩
            refine x_one (i := 4) (by kernel_rfl) rfl ?_
            have cx113b := cx
            refine s_fn cx (c81 (idxS i) (D0 w x) p ps _ (fun b hb => hb.1) (hpp.mono (D0.up (hK.d0step hQ hNx).sz hNx) (hK.d0step hQ hNx).kp) (by omega)) Try.func81 rfl rfl rfl rfl rfl rfl ?_; intro q113 w cx hw113 hp113
            replace hQ := hQ.below hw113
            refine x_next ⟨.inl ⟨cx.pick2 1 0 rfl rfl rfl, (hK.d0step hQ hNx).kp⟩, ?_⟩
            refine x_one (i := 15) (by kernel_rfl) rfl ?_
            have cxc := cx
            have hKc := hK.d0step hQ hNx
            obtain ⟨w82, hw82⟩ : ∃ y, y = w := ⟨_, rfl⟩
            subst hw82
            refine s_callR rfl rfl (runs_fn Try.func58 rfl rfl rfl rfl) (ih wb _ R x _ _ (p ++ [idxS i]) _ a.list[i] b.list[i] _ _ _ cx (hp113.mono (fun b hb => ⟨hb.2, fun e => by have := (Made_lt cx113b.head b e).2; have := hb.1; omega⟩) (fun _ _ => rfl)) (RepV.mono (D0.up hKc.sz hNx) hKc.kp _ _ hrv1) (RepV.mono (D0.up hKc.sz hNx) hKc.kp _ _ hrv2) (hoa.2.2.1 _ (List.getElem_mem _)) (hob.2.2.1 _ (List.getElem_mem _)) (hfa1.elem (List.getElem_mem _)) (hfb.elem (List.getElem_mem _)) (by rw [List.length_append, List.length_singleton]; omega) (by omega) (by omega)) ?_; intro q124 w hp124
            obtain ⟨cs2, cx, hq2, hps2, hnx2⟩ := hp124
            have hQ2 := hQ.d0step hq2 (Nx.self _ _)
            have hG : dfr E d (p ++ [idxS i]) (a.list.getD i nulV) (b.list.getD i nulV) = dfr E d (p ++ [idxS i]) a.list[i] b.list[i] := by simp only [hgd1, hgd2]
            refine x_next ⟨.inr (by kernel_rfl), ?_⟩
            refine x_one (i := 16) (by kernel_rfl) rfl ?_
            refine s_val rfl rfl (v_assign rfl rfl) ?_
            refine x_next ⟨.inr (by kernel_rfl), ?_⟩
            refine x_done (by kernel_rfl) ?_
            refine wp_region_lit ?_
            refine s_val rfl rfl (v_add rfl hs106 rfl (by omega) (by omega)) ?_
            refine s_val rfl rfl (v_move rfl rfl) ?_
            refine wpList_nil ?_
            refine ⟨gk20 - 1, _, by omega, rfl, i + 1, q124, cs' ++ cs2, by omega, rfl, hs1, hs6, hs7, hs104, hs105, rfl, ?_, hK.d0step hQ2 hNx, hNx.trans hnx2 hKc.sz, ?_⟩
            · rw [rg_take, List.length_append, hG, ← Nat.add_assoc, ← List.append_assoc]
              exact cx
            · rw [rg_take, hG]
              exact PthsC.append _ _ _ _ (hcs.d0 hQ2 (fun q hq => (hnx2 q hq).imp id (fun h => Nat.le_trans hQ.sz h))) (PthsC.mono (fun b hb => ⟨⟨Nat.le_trans hKc.sz hb.1.1, hb.1.2⟩, hb.2⟩) (fun _ _ => rfl) _ _ hps2)
          · skip
            try simp only [Bool.and_eq_true, Bool.or_eq_true, Bool.and_eq_false_iff, Bool.or_eq_false_iff, Bool.not_eq_true', Bool.not_eq_false', decide_eq_true_eq, decide_eq_false_iff_not, beq_iff_eq, beq_eq_false_iff_ne, bne_iff_ne, bne_eq_false_iff_eq, ne_eq, Classical.not_not] at hc107
            refine wp_exit ?_
            refine wp_seq ?_
            refine wp_region_lit ?_
            refine s_val rfl rfl (v_move rfl hs0) ?_
            refine s_val rfl rfl (v_assign rfl rfl) ?_
            refine wpList_nil ?_
            refine wp_ret ?_
            refine ret_tmp Try.results58 rfl ?_
            have hi : i = a.list.length := by omega
            subst hi
            rw [hdf]
            exact ⟨cs', cx.drop 2, hK, hcs, hNx⟩
        · skip
          skip
          refine wp_skip ?_
          refine wp_seq ?_
          refine wp_region_lit ?_
          refine s_val rfl rfl (v_move rfl hs0) ?_
          refine s_val rfl rfl (v_move rfl hs1) ?_
          have cx129 := cx
          have hK129a := hK.sz
          refine s_fn cx (c84 (D0 w v) p [] ps _ _ (fun b hb => hb.1) (hpp.mono (D0.up hK.sz (Nx.self _ _)) hK.kp) PthA.nil (by simp; omega)) Try.func84 rfl rfl rfl rfl rfl rfl ?_; intro q129 w cx hw129 hp129
          replace hK := hK.below hw129
          have hKn := Kp.fr hw129
          obtain ⟨_, _, hsl129, _⟩ := id hp129
          obtain ⟨qa, qc, rfl, _⟩ := hsl129.form
          refine s_bsl1 cx Try.underlying46 sz24 z24 rfl rfl rfl rfl rfl rfl rfl rfl ?_; intro b130 w cx hb130 hw130
          replace hK := hK.below hw130
          replace hKn := hKn.below hw130
          have hK129 := hK.sz
          have hm1 := hKn.sz
          refine s_appendG (m := 1) cx ei24 Try.underlying46 rfl rfl rfl rfl rfl (cx.row 0 rfl) rfl rfl (by omega) ?_; intro v131 w cx hgr131 hnw131
          replace hK := hK.d0own hgr131 rfl (Nx.self _ _)
          replace hKn := hKn.frOwn hgr131 (fun q hq => (Made_lt cx129.head q hq).2)
          refine s_val rfl rfl (v_assign rfl rfl) ?_
          refine wpList_nil ?_
          refine wp_ret ?_
          refine ret_tmp Try.results58 rfl ?_
          have hd1 : dfr E (d + 1) p a b = [p] := by
            simp only [dfr]
            rw [if_neg (fun h => hne ((hE a b).1 h)), if_neg (by rw [hal]; simp), if_neg (by unfold lalike; rw [hc102]; simp)]
          rw [hd1]
          have hfin : PthA (fun b => Fr w0 w b ∧ v131.ownBlock ≠ some b) w (.slice qa (p ++ []).length qc) p := by
            have h2 := PthA.mono (A' := fun b => Fr w0 w b ∧ v131.ownBlock ≠ some b) (fun b hb => ⟨⟨Nat.le_trans hK129a hb.1, Nat.lt_of_lt_of_le hb.2 hKn.sz⟩, fun e => (hnw131 b e).elim (fun h => by have := (Made_lt cx129.head b h).2; have := hb.1; omega) (fun h => by have := hb.2; omega)⟩) hKn.kp hp129
            rw [List.append_nil] at h2 ⊢
            exact h2
          exact ⟨[_], cx.drop 3, hK, ⟨hfin, trivial⟩, fun q hq => (hnw131 q hq).imp id (fun h => Nat.le_trans hK129 h)⟩
end Go.Proofs.Ytmkihcdcgkdilaa
