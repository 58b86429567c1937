/-
  Several texts in one.
-/
import Derived.Test.YtmkihcdcgkdilaaPD
import Derived.Test.YtmkihcdcgkdilaaEa
import Derived.Test.YtmkihcdcgkdilaaQg
import Derived.Test.YtmkihcdcgkdilaaQf
import Derived.Test.YtmkihcdcgkdilaaVd
import Derived.ProofKit
import Derived.Test.YtmkihcdcgkdilaaVh
import Derived.Test.YtmkihcdcgkdilaaCb
import Derived.Test.YtmkihcdcgkdilaaQc
import Derived.Test.YtmkihcdcgkdilaaRows
import Derived.WalkKit
import Derived.OpenShut
import Derived.JoinedCond
section
namespace Go.Proofs.Ytmkihcdcgkdilaa
open Go Go.Dk Go.RowKit
set_option linter.unusedSimpArgs false
set_option linter.unusedVariables false
attribute [local irreducible] Go.wpList Go.Code.wp Go.bodyPost Go.wpStill Go.wpQuiet
section
variable (a : Option Addr) (n c : Nat) (k : Int) (s t : Sc) (bs ls fs bs2 ls2 fs2 : Value) (w : World)
theorem bd35r2 : (Instr.build 35 ([(0, .int .i64 3), (1, .slice a n c), (2, .int .i64 k), (3, .agg (vrow s bs ls fs).toArray)] : List (Nat × Value)).toArray).run Try.prog w = .ok (.agg (.int .i64 3 :: .slice a n c :: .int .i64 k :: (vrow s bs ls fs ++ vrow (zk 0) (.slice none 0 0) (.slice none 0 0) (.slice none 0 0))).toArray) w := by
  unfold vrow zk
  go_simp
  rfl
theorem bd35a2 : (Instr.build 35 ([(0, .int .i64 2), (1, .slice a n c), (2, .int .i64 k), (4, .agg (vrow s bs ls fs).toArray)] : List (Nat × Value)).toArray).run Try.prog w = .ok (.agg (.int .i64 2 :: .slice a n c :: .int .i64 k :: (vrow (zk 0) (.slice none 0 0) (.slice none 0 0) (.slice none 0 0) ++ vrow s bs ls fs)).toArray) w := by
  unfold vrow zk
  go_simp
  rfl
theorem bd35r : (Instr.build 35 ([(0, .int .i64 3), (1, .slice a n c), (3, .agg (vrow s bs ls fs).toArray)] : List (Nat × Value)).toArray).run Try.prog w = .ok (.agg (.int .i64 3 :: .slice a n c :: .int .i64 0 :: (vrow s bs ls fs ++ vrow (zk 0) (.slice none 0 0) (.slice none 0 0) (.slice none 0 0))).toArray) w := by
  unfold vrow zk
  go_simp
  rfl
theorem bd35a : (Instr.build 35 ([(0, .int .i64 2), (1, .slice a n c), (4, .agg (vrow s bs ls fs).toArray)] : List (Nat × Value)).toArray).run Try.prog w = .ok (.agg (.int .i64 2 :: .slice a n c :: .int .i64 0 :: (vrow (zk 0) (.slice none 0 0) (.slice none 0 0) (.slice none 0 0) ++ vrow s bs ls fs)).toArray) w := by
  unfold vrow zk
  go_simp
  rfl
theorem bd35c : (Instr.build 35 ([(0, .int .i64 1), (1, .slice a n c), (3, .agg (vrow s bs ls fs).toArray), (4, .agg (vrow t bs2 ls2 fs2).toArray)] : List (Nat × Value)).toArray).run Try.prog w = .ok (.agg (.int .i64 1 :: .slice a n c :: .int .i64 0 :: (vrow s bs ls fs ++ vrow t bs2 ls2 fs2)).toArray) w := by
  unfold vrow
  go_simp
end

def C66 (E : V → V → Bool) (d : Nat) : Prop := ∀ (wb : World) (L : List (Nat × Obj)) (R : List Row) (p : List Stp) (ps : Value) (a b : V) (ra rb : List Value) (w0 : World), Cxr wb w0 L R → PthA (F w0 L R) w0 ps p → RepV (F w0 L R) w0 a ra → RepV (F w0 L R) w0 b rb → okd d a → okd d b → Fine a → Fine b → Nar d a b → p.length + d ≤ 100 → d ≤ 48 → (btw E d p a b).length ≤ 1048576 → Ret Try.prog 66 [ps, .agg ra.toArray, .agg rb.toArray] w0 (BtR wb w0 L R (btw E d p a b))

set_option maxRecDepth 10000 in
set_option maxHeartbeats 6400000 in
theorem c98 (E : V → V → Bool) (d : Nat) (ih : C66 E d) (wb : World) (L : List (Nat × Obj)) (R : List Row) (p : List Stp) (ps : Value) (a b : V) (ra rb : List Value) (w0 : World) : Cxr wb w0 L R → PthA (F w0 L R) w0 ps p → RepV (F w0 L R) w0 a ra → RepV (F w0 L R) w0 b rb → okd (d + 1) a → okd (d + 1) b → Fine a → Fine b → Nar (d + 1) a b → p.length + (d + 1) ≤ 100 → (d + 1) ≤ 48 → ((kepC (btw E d) p b.fields a.fields ++ remC p b.fields a.fields 0 ++ addC p a.fields b.fields (nkep b.fields a.fields))).length ≤ 1048576 → Ret Try.prog 98 [ps, .agg ra.toArray, .agg rb.toArray] w0 (BtR wb w0 L R (kepC (btw E d) p b.fields a.fields ++ remC p b.fields a.fields 0 ++ addC p a.fields b.fields (nkep b.fields a.fields))) := by
  intro cx hpp hva hvb hoa hob hfa1 hfb1 hnar hpd hd48 hnb
  have hO1 := id (RepV.open hva)
  obtain ⟨abs, als, afs, rfl, _, _, haf0⟩ := hO1
  have hO2 := id (RepV.open hvb)
  obtain ⟨bbs, bls, bfs, rfl, _, _, hbf0⟩ := hO2
  obtain ⟨fb, fo, hfsl, hfreps⟩ := haf0
  have hO3 := hfsl.form
  obtain ⟨fa, fc, rfl, hfa⟩ := hO3
  obtain ⟨gb, go, hgsl, hgreps⟩ := hbf0
  have hO4 := hgsl.form
  obtain ⟨ga, gc, rfl, hga⟩ := hO4
  have hafl := hfa1.self.2.2.2.2
  have hbfl := hfb1.self.2.2.2.2
  rw [List.length_append, List.length_append] at hnb
  refine ret_enter Try.func98 rfl Try.ntmps98 rfl ?_
  skip
  refine wp_seq ?_
  refine wp_region_lit ?_
  refine s_box cx rfl rfl rfl rfl rfl ?_; intro b4 w cx hb4 hw4
  refine s_box cx rfl rfl rfl rfl rfl ?_; intro b5 w cx hb5 hw5
  refine s_val rfl rfl (v_assign rfl rfl) ?_
  refine wpList_nil ?_
  refine wp_seq ?_
  refine wp_region_lit ?_
  have hz : Fz w0 L R w ((b5, .cells (vrow b.sc bbs bls (.slice ga b.fields.length gc)).toArray 33) :: (b4, .cells (vrow a.sc abs als (.slice fa a.fields.length fc)).toArray 33) :: L) R := (Fz.new hb4 hw4).trans (Fz.new hb5 hw5)
  replace hz := hz.trans (Fz.nilRow 35 29)
  replace cx := cx.nilRow 35 29
  refine s_val rfl rfl (v_assign rfl rfl) ?_
  refine wpList_nil ?_
  refine wp_seq ?_
  refine wp_seq ?_
  refine wp_region_lit ?_
  refine s_val rfl rfl (v_assign rfl rfl) ?_
  refine wpList_nil ?_
  refine wp_block ?_
  refine w_loop (fun k f w1 => ∃ (i : Nat) (v : Value) (rs : List (List Value)), k + i = a.fields.length ∧ f 0 = ps ∧ f 4 = .pointer (some ⟨b4, 0, none⟩) ∧ f 5 = .pointer (some ⟨b5, 0, none⟩) ∧ f 7 = v ∧ f 8 = .int .i64 (i : Nat) ∧ LpC wb w0 L R ((b5, .cells (vrow b.sc bbs bls (.slice ga b.fields.length gc)).toArray 33) :: (b4, .cells (vrow a.sc abs als (.slice fa a.fields.length fc)).toArray 33) :: L) R 0 [] (kepC (btw E d) p b.fields (a.fields.take i)) v rs w1) (a.fields.length) ?_ ?_
  · skip
    exact ⟨0, .slice none 0 0, [], by omega, rfl, rfl, rfl, rfl, rfl, (LpC.zero cx hz).cast (by simp [kepC])⟩
  intro gk3 f w hJ
  obtain ⟨i, v, rs, hki, hs0, hs4, hs5, hs7, hs8, cx, hz, hcf⟩ := hJ
  refine wp_seq ?_
  refine wp_seq ?_
  refine wp_region_lit ?_
  refine s_val rfl rfl (v_move rfl hs8) ?_
  refine s_val rfl rfl (v_fa fa33_7 rfl hs4) ?_
  refine s_val rfl rfl (v_load1 rfl rfl Try.underlying31 rfl (cx.cell 1 rfl rfl)) ?_
  refine s_val rfl rfl (v_lenSlice rfl rfl Try.underlying31) ?_
  refine s_val rfl rfl (v_cmp rfl rfl rfl rfl) ?_
  refine wpList_nil ?_
  refine c_split rfl (fun hc25 => ?_) (fun hc25 => ?_)
  · skip
    try simp only [Bool.and_eq_true, Bool.or_eq_true, Bool.and_eq_false_iff, Bool.or_eq_false_iff, Bool.not_eq_true', Bool.not_eq_false', decide_eq_true_eq, decide_eq_false_iff_not, beq_iff_eq, beq_eq_false_iff_ne, bne_iff_ne, bne_eq_false_iff_eq, ne_eq, Classical.not_not] at hc25
    have hil : i < a.fields.length := by omega
    have hO5 := hfa (by omega)
    obtain rfl := hO5
    have hFfb := hfsl.inA (by omega)
    have hO6 := fld_at hz hfreps hil hFfb
    obtain ⟨r, hr, hrv⟩ := hO6
    have hO7 := hrv.open
    obtain ⟨ebs, els, efs, rfl, _⟩ := hO7
    have hkm : a.fields[i] ∈ a.fields := List.getElem_mem _
    have hh := hz.self
    have hb1 := kepC_le (btw E d) p b.fields a.fields (i + 1)
    rw [kepC_take (btw E d) p b.fields hil] at hb1
    refine wp_skip ?_
    refine wp_seq ?_
    refine wp_block ?_
    refine wp_seq ?_
    refine wp_region_lit ?_
    refine s_val rfl rfl (v_fa fa33_7 rfl hs4) ?_
    refine s_val rfl rfl (v_load1 rfl rfl Try.underlying31 rfl (cx.cell 1 rfl rfl)) ?_
    refine s_val rfl rfl (v_move rfl hs8) ?_
    refine s_val rfl rfl (v_ia Try.underlying31 sz77 rfl rfl rfl (by omega) (by omega)) ?_
    refine s_val rfl rfl (v_load rfl rfl Try.underlying77 rfl sz77 hr rfl) ?_
    refine s_alloc cx z77 rfl rfl rfl ?_; intro b9 w cx hb9 hw9
    refine s_storeAllG cx 0 rfl rfl rfl rfl rfl rfl sz77 rfl (rowF_one hrv) ?_; intro w cx hg9
    replace cx := cx.set0
    replace hh := hh.trans (Fz.newSet cx hb9 hw9 hg9)
    replace hrv := (Fz.newSet cx hb9 hw9 hg9).rep hrv
    refine wpList_nil ?_
    refine wp_seq ?_
    refine wp_region_lit ?_
    refine s_val rfl rfl (v_load rfl hs5 Try.underlying33 rfl sz33 (cx.row 1 rfl) (by first | rfl | exact hv.len)) ?_
    refine s_val rfl rfl (v_fa fa77_0 rfl rfl) ?_
    refine s_val rfl rfl (v_load1 rfl rfl Try.underlying9 rfl (cx.cell 0 rfl rfl)) ?_
    refine s_fn cx (c86 _ b _ a.fields[i].1 _ F.lt ((hz.trans hh).rep hvb) hbfl) Try.func86 rfl rfl rfl rfl rfl rfl ?_; intro q37 w cx hw37 hp37
    obtain ⟨lu, rfl, hlu⟩ := hp37
    replace hlu := RepV.mono (Fz.belC cx hw37).up (fun _ _ => rfl) _ _ hlu
    replace hh := hh.trans (Fz.belC cx hw37)
    replace hrv := (Fz.belC cx hw37).rep hrv
    have hlul := hlu.len
    refine s_val rfl rfl (v_move rfl rfl) ?_
    refine s_val rfl rfl (v_extract rfl rfl rfl) ?_
    refine s_val rfl rfl (v_extract rfl rfl rfl) ?_
    refine s_alloc cx z33 rfl rfl rfl ?_; intro b10 w cx hb10 hw10
    refine s_storeAllG cx 0 rfl rfl rfl rfl rfl rfl (by rw [hlul]; exact sz33) (by rw [hlul]; rfl) hlu.one ?_; intro w cx hg10
    replace cx := cx.set0
    replace hh := hh.trans (Fz.newSet cx hb10 hw10 hg10)
    replace hrv := (Fz.newSet cx hb10 hw10 hg10).rep hrv
    replace hlu := (Fz.newSet cx hb10 hw10 hg10).rep hlu
    refine s_val rfl rfl (v_assign rfl rfl) ?_
    refine wpList_nil ?_
    refine wp_seq ?_
    refine wp_region_lit ?_
    refine s_val rfl rfl (v_move rfl rfl) ?_
    refine wpList_nil ?_
    refine c_split rfl (fun hc40 => ?_) (fun hc40 => ?_)
    · skip
      skip
      have hO8 := Option.isSome_iff_exists.1 hc40
      obtain ⟨u, hu⟩ := hO8
      rw [hu] at hlu
      replace hlu : RepV _ w u lu := hlu
      rw [hu, List.length_append] at hb1
      dsimp only at hb1
      refine w_ord cx (cx.pick2 1 0 rfl rfl rfl) mixed [(0, 41), (1, 42), (2, 43), (3, 44), (5, 46), (6, 47), (7, 48)] #[true, true, true, true, false, true, true, true, false, false, false] (by kernel_rfl) (by kernel_rfl) (by kernel_rfl) (by kernel_rfl) ?_
      refine pu_one rfl (wnt_none rfl) (fun w cx => v_move rfl hs7) ?_
      refine pu_one rfl (wnt_none rfl) (fun w cx => v_move rfl hs0) ?_
      refine pu_one rfl (wnt_none rfl) (fun w cx => v_fa fa77_0 rfl rfl) ?_
      refine pu_one rfl (wnt_none rfl) (fun w cx => v_load1 rfl rfl Try.underlying9 rfl (cx.cell 0 rfl rfl)) ?_
      refine pu_one rfl (wnt_none rfl) (fun w cx => v_fa fa77_1 rfl rfl) ?_
      refine pu_one rfl (wnt_none rfl) (fun w cx => v_load rfl rfl Try.underlying33 rfl sz33 ((cx.row 0 rfl).tail) rfl) ?_
      refine pu_one rfl (wnt_none rfl) (fun w cx => v_load rfl rfl Try.underlying33 rfl sz33 (cx.row 1 rfl) hlul) ?_
      refine pu_nil ?_; intro w cx hwD8
      replace hh := hh.trans (Fz.belC cx hwD8)
      replace hrv := (Fz.belC cx hwD8).rep hrv
      replace hlu := (Fz.belC cx hwD8).rep hlu
      refine x_one (i := 4) (by kernel_rfl) rfl ?_
      have cx45 := cx
      refine s_fn cx (c87 a.fields[i].1 _ p _ _ F.lt ((hz.trans hh).pth hpp) (by omega)) Try.func87 rfl rfl rfl rfl rfl rfl ?_; intro q45 w cx hw45 hp45
      replace hp45 := hp45.fr cx45 hw45.size
      replace hh := hh.trans (Fz.belC cx hw45)
      replace hrv := (Fz.belC cx hw45).rep hrv
      replace hlu := (Fz.belC cx hw45).rep hlu
      refine x_next ⟨.inl (cx.pick2 1 0 rfl rfl rfl), ?_⟩
      refine x_one (i := 8) (by kernel_rfl) rfl ?_
      refine s_callR rfl rfl (runs_fn Try.func66 rfl rfl rfl rfl) (ih wb _ _ (p ++ [keyS a.fields[i].1]) _ a.fields[i].2 u _ _ _ cx hp45 hrv hlu (hoa.2.2.2 _ hkm) (hob.2.2.2 _ (hasF_mem hu)) (hfa1.field hkm).2 (hfb1.field (hasF_mem hu)).2 (hnar.field hkm hu) (by rw [List.length_append, List.length_singleton]; omega) (by omega) (by omega)) ?_; intro q49 w hp49
      obtain ⟨rs2, cx, hz2, hcf2⟩ := hp49
      replace hh := (hh.trans hz2).trans Fz.swap
      replace cx := cx.swap
      replace hcf2 := Fz.swap.chs hcf2
      refine x_next ⟨.inl (cx.pick2 1 0 rfl rfl rfl), ?_⟩
      refine x_one (i := 9) (by kernel_rfl) rfl ?_
      have hrow2 := cx.row2
      refine s_appendS cx ei35 Try.underlying22 rfl rfl rfl rfl rfl (src_rowk hrow2) (by rw [List.nil_append, Nat.zero_add]; exact chs_flat hcf2) (by rw [List.nil_append]; exact chs_one hcf2) (by omega) ?_; intro v50 w cx hgr50 hnw50
      replace hh := (hh.trans (Fz.appC cx hgr50 hnw50)).trans (Fz.swap.trans Fz.tlR)
      replace hcf2 := (Fz.swap.trans Fz.tlR).chs ((Fz.appC cx hgr50 hnw50).chs hcf2)
      replace cx := cx.swap.tlR
      refine x_next ⟨.inr (by kernel_rfl), ?_⟩
      refine x_one (i := 10) (by kernel_rfl) rfl ?_
      refine s_val rfl rfl (v_assign rfl rfl) ?_
      refine x_next ⟨.inr (by kernel_rfl), ?_⟩
      refine x_done (by kernel_rfl) ?_
      refine wp_region_lit ?_
      refine s_val rfl rfl (v_move rfl hs8) ?_
      refine s_val rfl rfl (v_add rfl rfl rfl (by omega) (by omega)) ?_
      refine s_val rfl rfl (v_assign rfl rfl) ?_
      refine wpList_nil ?_
      refine ⟨gk3 - 1, _, by omega, rfl, i + 1, v50, rs ++ rs2, by omega, hs0, hs4, hs5, rfl, rfl, LpC.cast (LpC.of ?_ ?_ cx.tl.tl (hz.trans (hh.trans (Fz.tl.trans Fz.tl))) (Rws.append ((hh.trans (Fz.tl.trans Fz.tl)).chs hcf) ((Fz.tl.trans Fz.tl).chs hcf2))) (by rw [kepC_take _ _ _ hil, hu])⟩
      · rw [List.length_append]; omega
      · simp
    · skip
      skip
      have hu : hasF a.fields[i].1 b.fields = none := by
        cases hx : hasF a.fields[i].1 b.fields with
        | none => rfl
        | some u => rw [hx] at hc40; cases hc40
      refine wp_skip ?_
      refine wp_region_lit ?_
      refine s_val rfl rfl (v_move rfl hs8) ?_
      refine s_val rfl rfl (v_add rfl rfl rfl (by omega) (by omega)) ?_
      refine s_val rfl rfl (v_assign rfl rfl) ?_
      refine wpList_nil ?_
      refine ⟨gk3 - 1, _, by omega, rfl, i + 1, v, rs, by omega, hs0, hs4, hs5, hs7, rfl, LpC.cast (LpC.of rfl rfl cx.tl.tl (hz.trans (hh.trans (Fz.tl.trans Fz.tl))) ((hh.trans (Fz.tl.trans Fz.tl)).chs hcf)) (by rw [kepC_take _ _ _ hil, hu]; simp)⟩
  · skip
    try simp only [Bool.and_eq_true, Bool.or_eq_true, Bool.and_eq_false_iff, Bool.or_eq_false_iff, Bool.not_eq_true', Bool.not_eq_false', decide_eq_true_eq, decide_eq_false_iff_not, beq_iff_eq, beq_eq_false_iff_ne, bne_iff_ne, bne_eq_false_iff_eq, ne_eq, Classical.not_not] at hc25
    refine wp_exit ?_
    refine wp_seq ?_
    refine wp_region_lit ?_
    refine s_val rfl rfl (v_assign rfl rfl) ?_
    refine wpList_nil ?_
    refine wp_seq ?_
    refine wp_seq ?_
    refine wp_region_lit ?_
    refine s_val rfl rfl (v_assign rfl rfl) ?_
    refine wpList_nil ?_
    refine wp_block ?_
    have hia : i = a.fields.length := by omega
    subst hia
    rw [List.take_of_length_le (Nat.le_refl _)] at cx hz hcf
    refine w_loop (fun k f w1 => ∃ (i : Nat) (v : Value) (rs : List (List Value)), k + i = a.fields.length ∧ f 0 = ps ∧ f 4 = .pointer (some ⟨b4, 0, none⟩) ∧ f 5 = .pointer (some ⟨b5, 0, none⟩) ∧ f 7 = v ∧ f 12 = .int .i64 (nkep b.fields (a.fields.take i) : Nat) ∧ f 13 = .int .i64 (i : Nat) ∧ LpC wb w0 L R ((b5, .cells (vrow b.sc bbs bls (.slice ga b.fields.length gc)).toArray 33) :: (b4, .cells (vrow a.sc abs als (.slice fa a.fields.length fc)).toArray 33) :: L) R 0 [] (kepC (btw E d) p b.fields a.fields ++ remC p b.fields (a.fields.take i) 0) v rs w1) (a.fields.length) ?_ ?_
    · skip
      exact ⟨0, v, rs, by omega, hs0, hs4, hs5, hs7, rfl, rfl, LpC.cast (LpC.of rfl rfl cx hz hcf) (by simp [remC])⟩
    intro gk11 f w hJ
    obtain ⟨i, v, rs, hki, hs0, hs4, hs5, hs7, hs12, hs13, cx, hz, hcf⟩ := hJ
    refine wp_seq ?_
    refine wp_seq ?_
    refine wp_region_lit ?_
    refine s_val rfl rfl (v_move rfl hs13) ?_
    refine s_val rfl rfl (v_fa fa33_7 rfl hs4) ?_
    refine s_val rfl rfl (v_load1 rfl rfl Try.underlying31 rfl (cx.cell 1 rfl rfl)) ?_
    refine s_val rfl rfl (v_lenSlice rfl rfl Try.underlying31) ?_
    refine s_val rfl rfl (v_cmp rfl rfl rfl rfl) ?_
    refine wpList_nil ?_
    refine c_split rfl (fun hc55 => ?_) (fun hc55 => ?_)
    · skip
      try simp only [Bool.and_eq_true, Bool.or_eq_true, Bool.and_eq_false_iff, Bool.or_eq_false_iff, Bool.not_eq_true', Bool.not_eq_false', decide_eq_true_eq, decide_eq_false_iff_not, beq_iff_eq, beq_eq_false_iff_ne, bne_iff_ne, bne_eq_false_iff_eq, ne_eq, Classical.not_not] at hc55
      have hil : i < a.fields.length := by omega
      have hO9 := hfa (by omega)
      obtain rfl := hO9
      have hFfb := hfsl.inA (by omega)
      have hO10 := fld_at hz hfreps hil hFfb
      obtain ⟨r, hr, hrv⟩ := hO10
      have hO11 := hrv.open
      obtain ⟨ebs, els, efs, rfl, _⟩ := hO11
      have hkm : a.fields[i] ∈ a.fields := List.getElem_mem _
      have hh := hz.self
      have hb1 := remC_le p b.fields a.fields (i + 1)
      rw [remC_take p b.fields hil] at hb1
      have hnk := nkep_take b.fields hil
      have hnl := nkep_le b.fields (a.fields.take i)
      rw [List.length_take] at hnl
      refine wp_skip ?_
      refine wp_seq ?_
      refine wp_block ?_
      refine wp_seq ?_
      refine wp_region_lit ?_
      refine s_val rfl rfl (v_fa fa33_7 rfl hs4) ?_
      refine s_val rfl rfl (v_load1 rfl rfl Try.underlying31 rfl (cx.cell 1 rfl rfl)) ?_
      refine s_val rfl rfl (v_move rfl hs13) ?_
      refine s_val rfl rfl (v_ia Try.underlying31 sz77 rfl rfl rfl (by omega) (by omega)) ?_
      refine s_val rfl rfl (v_load rfl rfl Try.underlying77 rfl sz77 hr rfl) ?_
      refine s_alloc cx z77 rfl rfl rfl ?_; intro b14 w cx hb14 hw14
      refine s_storeAllG cx 0 rfl rfl rfl rfl rfl rfl sz77 rfl (rowF_one hrv) ?_; intro w cx hg14
      replace cx := cx.set0
      replace hh := hh.trans (Fz.newSet cx hb14 hw14 hg14)
      replace hrv := (Fz.newSet cx hb14 hw14 hg14).rep hrv
      refine wpList_nil ?_
      refine wp_seq ?_
      refine wp_seq ?_
      refine wp_region_lit ?_
      refine s_val rfl rfl (v_load rfl hs5 Try.underlying33 rfl sz33 (cx.row 1 rfl) (by first | rfl | exact hv.len)) ?_
      refine s_val rfl rfl (v_fa fa77_0 rfl rfl) ?_
      refine s_val rfl rfl (v_load1 rfl rfl Try.underlying9 rfl (cx.cell 0 rfl rfl)) ?_
      refine s_fn cx (c86 _ b _ a.fields[i].1 _ F.lt ((hz.trans hh).rep hvb) hbfl) Try.func86 rfl rfl rfl rfl rfl rfl ?_; intro q67 w cx hw67 hp67
      obtain ⟨lu, rfl, hlu⟩ := hp67
      replace hlu := RepV.mono (Fz.belC cx hw67).up (fun _ _ => rfl) _ _ hlu
      replace hh := hh.trans (Fz.belC cx hw67)
      replace hrv := (Fz.belC cx hw67).rep hrv
      have hlul := hlu.len
      refine s_val rfl rfl (v_move rfl rfl) ?_
      refine s_val rfl rfl (v_extract rfl rfl rfl) ?_
      refine s_val rfl rfl (v_extract rfl rfl rfl) ?_
      refine s_alloc cx z33 rfl rfl rfl ?_; intro b15 w cx hb15 hw15
      refine s_storeAllG cx 0 rfl rfl rfl rfl rfl rfl (by rw [hlul]; exact sz33) (by rw [hlul]; rfl) hlu.one ?_; intro w cx hg15
      replace cx := cx.set0
      replace hh := hh.trans (Fz.newSet cx hb15 hw15 hg15)
      replace hrv := (Fz.newSet cx hb15 hw15 hg15).rep hrv
      replace hlu := (Fz.newSet cx hb15 hw15 hg15).rep hlu
      refine s_val rfl rfl (v_assign rfl rfl) ?_
      refine wpList_nil ?_
      refine wp_seq ?_
      refine wp_region_lit ?_
      refine s_val rfl rfl (v_move rfl rfl) ?_
      refine wpList_nil ?_
      refine c_split rfl (fun hc70 => ?_) (fun hc70 => ?_)
      · skip
        skip
        rw [if_pos hc70] at hb1 hnk
        refine wp_seq ?_
        refine wp_region_lit ?_
        refine s_val rfl rfl (v_move rfl hs12) ?_
        refine s_val rfl rfl (v_add rfl rfl rfl (by omega) (by omega)) ?_
        refine s_val rfl rfl (v_assign rfl rfl) ?_
        refine wpList_nil ?_
        refine wp_exit ?_
        refine wp_region_lit ?_
        refine s_val rfl rfl (v_move rfl hs13) ?_
        refine s_val rfl rfl (v_add rfl rfl rfl (by omega) (by omega)) ?_
        refine s_val rfl rfl (v_assign rfl rfl) ?_
        refine wpList_nil ?_
        refine ⟨gk11 - 1, _, by omega, rfl, i + 1, v, rs, by omega, hs0, hs4, hs5, hs7, (by rw [hnk]; rfl), rfl, LpC.cast (LpC.of rfl rfl cx.tl.tl (hz.trans (hh.trans (Fz.tl.trans Fz.tl))) ((hh.trans (Fz.tl.trans Fz.tl)).chs hcf)) (by rw [remC_take _ _ hil, if_pos hc70, List.append_nil])⟩
      · skip
        skip
        rw [if_neg (by rw [hc70]; exact Bool.false_ne_true), List.length_append, List.length_singleton] at hb1
        rw [if_neg (by rw [hc70]; exact Bool.false_ne_true)] at hnk
        refine wp_skip ?_
        refine w_ord cx (cx.pick1 1 rfl) mixed [(0, 73), (1, 74), (2, 75), (3, 76), (5, 78), (6, 79), (7, 80)] #[true, true, true, true, false, true, true, true, false, false, false, false] (by kernel_rfl) (by kernel_rfl) (by kernel_rfl) (by kernel_rfl) ?_
        refine pu_one rfl (wnt_none rfl) (fun w cx => v_move rfl hs7) ?_
        refine pu_one rfl (wnt_none rfl) (fun w cx => v_move rfl hs0) ?_
        refine pu_one rfl (wnt_none rfl) (fun w cx => v_fa fa77_0 rfl rfl) ?_
        refine pu_one rfl (wnt_none rfl) (fun w cx => v_load1 rfl rfl Try.underlying9 rfl (cx.cell 0 rfl rfl)) ?_
        refine pu_one rfl (wnt_none rfl) (fun w cx => v_move rfl hs12) ?_
        refine pu_one rfl (wnt_none rfl) (fun w cx => v_fa fa77_1 rfl rfl) ?_
        refine pu_one rfl (wnt_none rfl) (fun w cx => v_load rfl rfl Try.underlying33 rfl sz33 ((cx.row 0 rfl).tail) rfl) ?_
        refine pu_nil ?_; intro w cx hwD17
        replace hh := hh.trans (Fz.belC cx hwD17)
        replace hrv := (Fz.belC cx hwD17).rep hrv
        refine x_one (i := 4) (by kernel_rfl) rfl ?_
        have cx77 := cx
        refine s_fn cx (c87 a.fields[i].1 _ p _ _ F.lt ((hz.trans hh).pth hpp) (by omega)) Try.func87 rfl rfl rfl rfl rfl rfl ?_; intro q77 w cx hw77 hp77
        replace hp77 := hp77.fr cx77 hw77.size
        replace hh := hh.trans (Fz.belC cx hw77)
        replace hrv := (Fz.belC cx hw77).rep hrv
        refine x_next ⟨.inl (cx.pick1 1 rfl), ?_⟩
        refine x_one (i := 8) (by kernel_rfl) rfl ?_
        have hO12 := hp77.sl
        obtain ⟨pa, pc, rfl⟩ := hO12
        refine s_val rfl rfl (v_build (bd35r2 _ _ _ _ _ _ _ _) rfl rfl) ?_
        refine x_next ⟨.inl (cx.pick1 1 rfl), ?_⟩
        refine x_one (i := 9) (by kernel_rfl) rfl ?_
        refine s_bsl1 cx Try.underlying22 sz35 z35 rfl rfl rfl rfl rfl rfl rfl rfl ?_; intro b82 w cx hb82 hw82
        have hr82 : RowAt w b82 0 (.int .i64 3 :: .slice pa (p ++ [keyS a.fields[i].1]).length pc :: .int .i64 (nkep b.fields (a.fields.take i) : Nat) :: (vrow a.fields[i].2.sc ebs els efs ++ vrow (zk 0) (.slice none 0 0) (.slice none 0 0) (.slice none 0 0))) := cx.row 0 rfl
        replace cx := cx.tl
        replace hh := hh.trans (Fz.belC cx hw82)
        replace hrv := (Fz.belC cx hw82).rep hrv
        replace hp77 := (Fz.belC cx hw82).pth hp77
        refine x_next ⟨.inl (cx.pick1 1 rfl), ?_⟩
        refine x_one (i := 10) (by kernel_rfl) rfl ?_
        have hcn : chA (F w _ _) w (⟨3, p ++ [keyS a.fields[i].1], (nkep b.fields (a.fields.take i) : Nat), a.fields[i].2, nulV⟩ : Ch) (.int .i64 3 :: .slice pa (p ++ [keyS a.fields[i].1]).length pc :: .int .i64 (nkep b.fields (a.fields.take i) : Nat) :: (vrow a.fields[i].2.sc ebs els efs ++ vrow (zk 0) (.slice none 0 0) (.slice none 0 0) (.slice none 0 0))) := ⟨_, _, _, rfl, hp77, hrv, rep_nul⟩
        refine s_appendG (m := 1) cx ei35 Try.underlying22 rfl rfl rfl rfl rfl hr82 rfl (chA.one _ _ hcn) (by simp only [List.length_append]; omega) ?_; intro v83 w cx hgr83 hnw83
        replace hh := hh.trans (Fz.appC cx hgr83 hnw83)
        replace hcn := (Fz.appC cx hgr83 hnw83).ch1 hcn
        refine x_next ⟨.inr (by kernel_rfl), ?_⟩
        refine x_one (i := 11) (by kernel_rfl) rfl ?_
        refine s_val rfl rfl (v_assign rfl rfl) ?_
        refine x_next ⟨.inr (by kernel_rfl), ?_⟩
        refine x_done (by kernel_rfl) ?_
        refine wp_region_lit ?_
        refine s_val rfl rfl (v_move rfl hs13) ?_
        refine s_val rfl rfl (v_add rfl rfl rfl (by omega) (by omega)) ?_
        refine s_val rfl rfl (v_assign rfl rfl) ?_
        refine wpList_nil ?_
        refine ⟨gk11 - 1, _, by omega, rfl, i + 1, v83, rs ++ [_], by omega, hs0, hs4, hs5, rfl, (by rw [hnk]; exact hs12), rfl, LpC.cast (S := (kepC (btw E d) p b.fields a.fields ++ remC p b.fields (a.fields.take i) 0) ++ [⟨3, p ++ [keyS a.fields[i].1], (nkep b.fields (a.fields.take i) : Nat), a.fields[i].2, nulV⟩]) (LpC.of ?_ ?_ cx.tl.tl (hz.trans (hh.trans (Fz.tl.trans Fz.tl))) (Rws.append ((hh.trans (Fz.tl.trans Fz.tl)).chs hcf) ⟨(Fz.tl.trans Fz.tl).ch1 hcn, trivial⟩)) (by rw [remC_take _ _ hil, if_neg (by rw [hc70]; exact Bool.false_ne_true), List.append_assoc])⟩
        · simp only [List.length_append, List.length_singleton]; omega
        · simp
    · skip
      try simp only [Bool.and_eq_true, Bool.or_eq_true, Bool.and_eq_false_iff, Bool.or_eq_false_iff, Bool.not_eq_true', Bool.not_eq_false', decide_eq_true_eq, decide_eq_false_iff_not, beq_iff_eq, beq_eq_false_iff_ne, bne_iff_ne, bne_eq_false_iff_eq, ne_eq, Classical.not_not] at hc55
      refine wp_exit ?_
      refine wp_seq ?_
      refine wp_seq ?_
      refine wp_region_lit ?_
      refine s_val rfl rfl (v_assign rfl rfl) ?_
      refine wpList_nil ?_
      refine wp_block ?_
      have hia : i = a.fields.length := by omega
      subst hia
      rw [List.take_of_length_le (Nat.le_refl _)] at cx hz hcf hs12
      refine w_loop (fun k f w1 => ∃ (i : Nat) (v : Value) (rs : List (List Value)), k + i = b.fields.length ∧ f 0 = ps ∧ f 4 = .pointer (some ⟨b4, 0, none⟩) ∧ f 5 = .pointer (some ⟨b5, 0, none⟩) ∧ f 7 = v ∧ f 12 = .int .i64 ((nkep b.fields a.fields + (i - nkep a.fields (b.fields.take i)) : Nat) : Int) ∧ f 17 = .int .i64 (i : Nat) ∧ LpC wb w0 L R ((b5, .cells (vrow b.sc bbs bls (.slice ga b.fields.length gc)).toArray 33) :: (b4, .cells (vrow a.sc abs als (.slice fa a.fields.length fc)).toArray 33) :: L) R 0 [] (kepC (btw E d) p b.fields a.fields ++ remC p b.fields a.fields 0 ++ addC p a.fields (b.fields.take i) (nkep b.fields a.fields)) v rs w1) (b.fields.length) ?_ ?_
      · skip
        exact ⟨0, v, rs, by omega, hs0, hs4, hs5, hs7, (Eq.trans hs12 (by simp)), rfl, LpC.cast (LpC.of rfl rfl cx hz hcf) (by simp [addC])⟩
      intro gk19 f w hJ
      obtain ⟨i, v, rs, hki, hs0, hs4, hs5, hs7, hs12, hs17, cx, hz, hcf⟩ := hJ
      refine wp_seq ?_
      refine wp_seq ?_
      refine wp_region_lit ?_
      refine s_val rfl rfl (v_move rfl hs17) ?_
      refine s_val rfl rfl (v_fa fa33_7 rfl hs5) ?_
      refine s_val rfl rfl (v_load1 rfl rfl Try.underlying31 rfl (cx.cell 0 rfl rfl)) ?_
      refine s_val rfl rfl (v_lenSlice rfl rfl Try.underlying31) ?_
      refine s_val rfl rfl (v_cmp rfl rfl rfl rfl) ?_
      refine wpList_nil ?_
      refine c_split rfl (fun hc88 => ?_) (fun hc88 => ?_)
      · skip
        try simp only [Bool.and_eq_true, Bool.or_eq_true, Bool.and_eq_false_iff, Bool.or_eq_false_iff, Bool.not_eq_true', Bool.not_eq_false', decide_eq_true_eq, decide_eq_false_iff_not, beq_iff_eq, beq_eq_false_iff_ne, bne_iff_ne, bne_eq_false_iff_eq, ne_eq, Classical.not_not] at hc88
        have hil : i < b.fields.length := by omega
        have hO13 := hga (by omega)
        obtain rfl := hO13
        have hFfb := hgsl.inA (by omega)
        have hO14 := fld_at hz hgreps hil hFfb
        obtain ⟨r, hr, hrv⟩ := hO14
        have hO15 := hrv.open
        obtain ⟨ebs, els, efs, rfl, _⟩ := hO15
        have hkm : b.fields[i] ∈ b.fields := List.getElem_mem _
        have hh := hz.self
        have hb1 := addC_le p a.fields (nkep b.fields a.fields) b.fields (i + 1)
        rw [addC_take p a.fields _ hil] at hb1
        have hnk := nkep_take a.fields hil
        have hnl := nkep_le a.fields (b.fields.take i)
        rw [List.length_take] at hnl
        have hnl2 := nkep_le b.fields a.fields
        refine wp_skip ?_
        refine wp_seq ?_
        refine wp_block ?_
        refine wp_seq ?_
        refine wp_region_lit ?_
        refine s_val rfl rfl (v_fa fa33_7 rfl hs5) ?_
        refine s_val rfl rfl (v_load1 rfl rfl Try.underlying31 rfl (cx.cell 0 rfl rfl)) ?_
        refine s_val rfl rfl (v_move rfl hs17) ?_
        refine s_val rfl rfl (v_ia Try.underlying31 sz77 rfl rfl rfl (by omega) (by omega)) ?_
        refine s_val rfl rfl (v_load rfl rfl Try.underlying77 rfl sz77 hr rfl) ?_
        refine s_alloc cx z77 rfl rfl rfl ?_; intro b18 w cx hb18 hw18
        refine s_storeAllG cx 0 rfl rfl rfl rfl rfl rfl sz77 rfl (rowF_one hrv) ?_; intro w cx hg18
        replace cx := cx.set0
        replace hh := hh.trans (Fz.newSet cx hb18 hw18 hg18)
        replace hrv := (Fz.newSet cx hb18 hw18 hg18).rep hrv
        refine wpList_nil ?_
        refine wp_seq ?_
        refine wp_region_lit ?_
        refine s_val rfl rfl (v_load rfl hs4 Try.underlying33 rfl sz33 (cx.row 2 rfl) (by first | rfl | exact hv.len)) ?_
        refine s_val rfl rfl (v_fa fa77_0 rfl rfl) ?_
        refine s_val rfl rfl (v_load1 rfl rfl Try.underlying9 rfl (cx.cell 0 rfl rfl)) ?_
        refine s_fn cx (c86 _ a _ b.fields[i].1 _ F.lt ((hz.trans hh).rep hva) hafl) Try.func86 rfl rfl rfl rfl rfl rfl ?_; intro q100 w cx hw100 hp100
        obtain ⟨lu, rfl, hlu⟩ := hp100
        replace hlu := RepV.mono (Fz.belC cx hw100).up (fun _ _ => rfl) _ _ hlu
        replace hh := hh.trans (Fz.belC cx hw100)
        replace hrv := (Fz.belC cx hw100).rep hrv
        have hlul := hlu.len
        refine s_val rfl rfl (v_move rfl rfl) ?_
        refine s_val rfl rfl (v_extract rfl rfl rfl) ?_
        refine s_val rfl rfl (v_extract rfl rfl rfl) ?_
        refine s_alloc cx z33 rfl rfl rfl ?_; intro b19 w cx hb19 hw19
        refine s_storeAllG cx 0 rfl rfl rfl rfl rfl rfl (by rw [hlul]; exact sz33) (by rw [hlul]; rfl) hlu.one ?_; intro w cx hg19
        replace cx := cx.set0
        replace hh := hh.trans (Fz.newSet cx hb19 hw19 hg19)
        replace hrv := (Fz.newSet cx hb19 hw19 hg19).rep hrv
        replace hlu := (Fz.newSet cx hb19 hw19 hg19).rep hlu
        refine s_val rfl rfl (v_assign rfl rfl) ?_
        refine wpList_nil ?_
        refine wp_seq ?_
        refine wp_region_lit ?_
        refine s_val rfl rfl (v_move rfl rfl) ?_
        refine s_val rfl rfl (v_not rfl rfl) ?_
        refine wpList_nil ?_
        refine c_split rfl (fun hc104 => ?_) (fun hc104 => ?_)
        · skip
          skip
          have hc105 : (hasF b.fields[i].1 a.fields).isSome = false := by simpa using hc104
          rw [if_neg (by rw [hc105]; exact Bool.false_ne_true), List.length_append, List.length_singleton] at hb1
          rw [if_neg (by rw [hc105]; exact Bool.false_ne_true)] at hnk
          refine wp_seq ?_
          refine w_ord cx (cx.pick1 1 rfl) mixed [(0, 105), (1, 106), (2, 107), (3, 108), (5, 110), (6, 111), (7, 112)] #[true, true, true, true, false, true, true, true, false, false, false, false] (by kernel_rfl) (by kernel_rfl) (by kernel_rfl) (by kernel_rfl) ?_
          refine pu_one rfl (wnt_none rfl) (fun w cx => v_move rfl hs7) ?_
          refine pu_one rfl (wnt_none rfl) (fun w cx => v_move rfl hs0) ?_
          refine pu_one rfl (wnt_none rfl) (fun w cx => v_fa fa77_0 rfl rfl) ?_
          refine pu_one rfl (wnt_none rfl) (fun w cx => v_load1 rfl rfl Try.underlying9 rfl (cx.cell 0 rfl rfl)) ?_
          refine pu_one rfl (wnt_none rfl) (fun w cx => v_move rfl hs12) ?_
          refine pu_one rfl (wnt_none rfl) (fun w cx => v_fa fa77_1 rfl rfl) ?_
          refine pu_one rfl (wnt_none rfl) (fun w cx => v_load rfl rfl Try.underlying33 rfl sz33 ((cx.row 0 rfl).tail) rfl) ?_
          refine pu_nil ?_; intro w cx hwD24
          replace hh := hh.trans (Fz.belC cx hwD24)
          replace hrv := (Fz.belC cx hwD24).rep hrv
          refine x_one (i := 4) (by kernel_rfl) rfl ?_
          have cx109 := cx
          refine s_fn cx (c87 b.fields[i].1 _ p _ _ F.lt ((hz.trans hh).pth hpp) (by omega)) Try.func87 rfl rfl rfl rfl rfl rfl ?_; intro q109 w cx hw109 hp109
          replace hp109 := hp109.fr cx109 hw109.size
          replace hh := hh.trans (Fz.belC cx hw109)
          replace hrv := (Fz.belC cx hw109).rep hrv
          refine x_next ⟨.inl (cx.pick1 1 rfl), ?_⟩
          refine x_one (i := 8) (by kernel_rfl) rfl ?_
          have hO16 := hp109.sl
          obtain ⟨pa, pc, rfl⟩ := hO16
          refine s_val rfl rfl (v_build (bd35a2 _ _ _ _ _ _ _ _) rfl rfl) ?_
          refine x_next ⟨.inl (cx.pick1 1 rfl), ?_⟩
          refine x_one (i := 9) (by kernel_rfl) rfl ?_
          refine s_bsl1 cx Try.underlying22 sz35 z35 rfl rfl rfl rfl rfl rfl rfl rfl ?_; intro b114 w cx hb114 hw114
          have hr114 : RowAt w b114 0 (.int .i64 2 :: .slice pa (p ++ [keyS b.fields[i].1]).length pc :: .int .i64 ((nkep b.fields a.fields + (i - nkep a.fields (b.fields.take i)) : Nat) : Int) :: (vrow (zk 0) (.slice none 0 0) (.slice none 0 0) (.slice none 0 0) ++ vrow b.fields[i].2.sc ebs els efs)) := cx.row 0 rfl
          replace cx := cx.tl
          replace hh := hh.trans (Fz.belC cx hw114)
          replace hrv := (Fz.belC cx hw114).rep hrv
          replace hp109 := (Fz.belC cx hw114).pth hp109
          refine x_next ⟨.inl (cx.pick1 1 rfl), ?_⟩
          refine x_one (i := 10) (by kernel_rfl) rfl ?_
          have hcn : chA (F w _ _) w (⟨2, p ++ [keyS b.fields[i].1], ((nkep b.fields a.fields + (i - nkep a.fields (b.fields.take i)) : Nat) : Int), nulV, b.fields[i].2⟩ : Ch) (.int .i64 2 :: .slice pa (p ++ [keyS b.fields[i].1]).length pc :: .int .i64 ((nkep b.fields a.fields + (i - nkep a.fields (b.fields.take i)) : Nat) : Int) :: (vrow (zk 0) (.slice none 0 0) (.slice none 0 0) (.slice none 0 0) ++ vrow b.fields[i].2.sc ebs els efs)) := ⟨_, _, _, rfl, hp109, rep_nul, hrv⟩
          refine s_appendG (m := 1) cx ei35 Try.underlying22 rfl rfl rfl rfl rfl hr114 rfl (chA.one _ _ hcn) (by simp only [List.length_append]; omega) ?_; intro v115 w cx hgr115 hnw115
          replace hh := hh.trans (Fz.appC cx hgr115 hnw115)
          replace hcn := (Fz.appC cx hgr115 hnw115).ch1 hcn
          refine x_next ⟨.inr (by kernel_rfl), ?_⟩
          refine x_one (i := 11) (by kernel_rfl) rfl ?_
          refine s_val rfl rfl (v_assign rfl rfl) ?_
          refine x_next ⟨.inr (by kernel_rfl), ?_⟩
          refine x_done (by kernel_rfl) ?_
          refine wp_region_lit ?_
          refine s_val rfl rfl (v_move rfl hs12) ?_
          refine s_val rfl rfl (v_add rfl rfl rfl (by omega) (by omega)) ?_
          refine s_val rfl rfl (v_assign rfl rfl) ?_
          refine wpList_nil ?_
          refine wp_region_lit ?_
          refine s_val rfl rfl (v_move rfl hs17) ?_
          refine s_val rfl rfl (v_add rfl rfl rfl (by omega) (by omega)) ?_
          refine s_val rfl rfl (v_assign rfl rfl) ?_
          refine wpList_nil ?_
          refine ⟨gk19 - 1, _, by omega, rfl, i + 1, v115, rs ++ [_], by omega, hs0, hs4, hs5, rfl, (by rw [hnk]; show Value.int _ _ = _; congr 1; omega), rfl, LpC.cast (S := (kepC (btw E d) p b.fields a.fields ++ remC p b.fields a.fields 0 ++ addC p a.fields (b.fields.take i) (nkep b.fields a.fields)) ++ [⟨2, p ++ [keyS b.fields[i].1], ((nkep b.fields a.fields + (i - nkep a.fields (b.fields.take i)) : Nat) : Int), nulV, b.fields[i].2⟩]) (LpC.of ?_ ?_ cx.tl.tl (hz.trans (hh.trans (Fz.tl.trans Fz.tl))) (Rws.append ((hh.trans (Fz.tl.trans Fz.tl)).chs hcf) ⟨(Fz.tl.trans Fz.tl).ch1 hcn, trivial⟩)) (by rw [addC_take _ _ _ hil, if_neg (by rw [hc105]; exact Bool.false_ne_true), List.append_assoc])⟩
          · simp only [List.length_append, List.length_singleton]; omega
          · simp
        · skip
          skip
          have hc105 : (hasF b.fields[i].1 a.fields).isSome = true := by simpa using hc104
          rw [if_pos hc105] at hb1 hnk
          refine wp_skip ?_
          refine wp_region_lit ?_
          refine s_val rfl rfl (v_move rfl hs17) ?_
          refine s_val rfl rfl (v_add rfl rfl rfl (by omega) (by omega)) ?_
          refine s_val rfl rfl (v_assign rfl rfl) ?_
          refine wpList_nil ?_
          refine ⟨gk19 - 1, _, by omega, rfl, i + 1, v, rs, by omega, hs0, hs4, hs5, hs7, (by rw [hnk]; refine Eq.trans hs12 ?_; congr 1; omega), rfl, LpC.cast (LpC.of rfl rfl cx.tl.tl (hz.trans (hh.trans (Fz.tl.trans Fz.tl))) ((hh.trans (Fz.tl.trans Fz.tl)).chs hcf)) (by rw [addC_take _ _ _ hil, if_pos hc105, List.append_nil])⟩
      · skip
        try simp only [Bool.and_eq_true, Bool.or_eq_true, Bool.and_eq_false_iff, Bool.or_eq_false_iff, Bool.not_eq_true', Bool.not_eq_false', decide_eq_true_eq, decide_eq_false_iff_not, beq_iff_eq, beq_eq_false_iff_ne, bne_iff_ne, bne_eq_false_iff_eq, ne_eq, Classical.not_not] at hc88
        refine wp_exit ?_
        refine wp_seq ?_
        refine wp_region_lit ?_
        refine s_val rfl rfl (v_move rfl hs7) ?_
        refine s_val rfl rfl (v_assign rfl rfl) ?_
        refine wpList_nil ?_
        refine wp_ret ?_
        refine ret_tmp Try.results98 rfl ?_
        have hib : i = b.fields.length := by omega
        subst hib
        rw [List.take_of_length_le (Nat.le_refl _)] at cx hz hcf
        exact ⟨rs, (LpC.of rfl rfl cx hz hcf).drop 2⟩
end Go.Proofs.Ytmkihcdcgkdilaa
end
section
namespace Go.Proofs.Ytmkihcdcgkdilaa
open Go Go.Dk Go.RowKit
set_option linter.unusedSimpArgs false
set_option linter.unusedVariables false
attribute [local irreducible] Go.wpList Go.Code.wp Go.bodyPost Go.wpStill Go.wpQuiet
theorem common_few (E : V → V → Bool) (a b : List V) : (common E a b).length ≤ a.length := by
  have hPa := nPre_a E a b
  have hSa := nSuf_a E a b
  have hlA := midL_len hSa
  have hMl := sel_len E (midL a (nPre E a b) (nSuf E a b)) (midL b (nPre E a b) (nSuf E a b)) (midL a (nPre E a b) (nSuf E a b)).length 0 0
  rw [hlA] at hMl
  unfold common
  rw [List.length_append, List.length_append, List.length_map, diag_len, ends_len]
  unfold mids
  rw [hlA]
  omega
def listV (l : List V) : V := .mk (zk 6) [] l []

theorem qflat_len (l : List (Nat × Nat)) : (l.flatMap qrow).length = l.length * 2 := qrow_len l
def C99 (E : V → V → Bool) (d : Nat) : Prop := ∀ (wb : World) (L : List (Nat × Obj)) (R : List Row) (p : List Stp) (ps : Value) (a b : List V) (s1 s2 : Value) (w0 : World), Cxr wb w0 L R → PthA (F w0 L R) w0 ps p → RepL (F w0 L R) w0 s1 a → RepL (F w0 L R) w0 s2 b → (∀ x ∈ a, okd d x ∧ Fine x) → (∀ x ∈ b, okd d x ∧ Fine x) → a.length ≤ 6000 → b.length ≤ 6000 → a.length * b.length ≤ 40000 → (∀ x ∈ a, ∀ y ∈ b, Nar d x y) → p.length + (d + 1) ≤ 100 → d + 1 ≤ 48 → (lstC (btw E d) p a b (common E a b ++ [(a.length, b.length)]) 0 0).length ≤ 1048576 →
    Ret Try.prog 99 [ps, s1, s2] w0 (BtR wb w0 L R (lstC (btw E d) p a b (common E a b ++ [(a.length, b.length)]) 0 0))

set_option maxRecDepth 10000 in
set_option maxHeartbeats 6400000 in
theorem c99 (E : V → V → Bool) (hE : ∀ x y, E x y = true ↔ canon x = canon y) (d : Nat) (ih : C66 E d) : C99 E d := by
  intro wb L R p ps a b s1 s2 w0 cx hpp hla hlb hoa hob hna hnb hnm hnar hpd hd48 hnT
  have hO1 : ∃ PP, PP = (common E a b ++ [(a.length, b.length)]) := ⟨_, rfl⟩
  obtain ⟨PP, hPP⟩ := hO1
  have hinc := inc_common E a b
  rw [← hPP] at hnT hinc ⊢
  have hPlen := common_few E a b
  have hO2 := hla.sl
  obtain ⟨a1, c1, rfl⟩ := hO2
  have hO3 := hlb.sl
  obtain ⟨a2, c2, rfl⟩ := hO3
  refine ret_enter Try.func99 rfl Try.ntmps99 rfl ?_
  skip
  refine wp_seq ?_
  refine wp_region_lit ?_
  refine s_val rfl rfl (v_assign rfl rfl) ?_
  refine wpList_nil ?_
  refine wp_seq ?_
  refine wp_region_lit ?_
  refine s_val rfl rfl (v_move rfl rfl) ?_
  refine s_val rfl rfl (v_move rfl rfl) ?_
  refine s_fn cx (c26 E hE a b _ _ _ (RepL.mono F.lt (fun _ _ => rfl) hla) (RepL.mono F.lt (fun _ _ => rfl) hlb) (fun x hx => (hoa x hx).2) (fun x hx => (hob x hx).2) hna hnb hnm) Try.func26 rfl rfl rfl rfl rfl rfl ?_; intro q14 w cx2 hw14 hp14
  have hzB : Fz w0 L R w L _ := Fz.adopt hw14 hp14
  have hO4 := own_row hp14
  obtain ⟨ap, cp, rfl, hrp⟩ := hO4
  replace cx := cx.adopt hw14 hp14
  clear cx2
  refine s_val rfl rfl (v_assign rfl rfl) ?_
  refine wpList_nil ?_
  refine wp_seq ?_
  refine wp_region_lit ?_
  refine s_val rfl rfl (v_move rfl rfl) ?_
  refine s_val rfl rfl (v_move rfl rfl) ?_
  refine s_val rfl rfl (v_lenSlice rfl rfl Try.underlying30) ?_
  refine s_val rfl rfl (v_move rfl rfl) ?_
  refine s_val rfl rfl (v_lenSlice rfl rfl Try.underlying30) ?_
  refine s_val rfl rfl (v_build (bd43 _ _) rfl rfl) ?_
  refine s_bsl1 cx Try.underlying41 sz43 z43 rfl rfl rfl rfl rfl rfl rfl rfl ?_; intro b21 w cx hb21 hw21
  have hr21 : RowAt w b21 0 [.int .i64 (a.length : Int), .int .i64 (b.length : Int)] := cx.row 0 rfl
  replace cx := cx.tl
  replace hzB := hzB.trans (Fz.belC cx hw21)
  refine s_appendG (m := 1) cx ei43 Try.underlying41 rfl rfl rfl rfl rfl hr21 rfl rfl (by omega) ?_; intro v22 w cx hgr22 hnw22
  replace hzB := hzB.trans (Fz.appC cx hgr22 hnw22)
  have hO5 := cx.ownRow
  obtain ⟨a22, c22, rfl, h22⟩ := hO5
  have hO6 := h22 (by omega)
  obtain ⟨g, rfl, hrowB⟩ := hO6
  have hFg := F.row1 cx g rfl
  replace hzB := hzB.trans Fz.tlR
  replace cx := cx.tlR
  have hPl : PP.length = (common E a b).length + 1 := by rw [hPP, List.length_append, List.length_singleton]
  have hPf : (common E a b).flatMap qrow ++ [.int .i64 (a.length : Int), .int .i64 (b.length : Int)] = PP.flatMap qrow := by rw [hPP, qflat_snoc]; rfl
  rw [hPf] at hrowB
  rw [← hPl]
  replace hpp := hzB.pth hpp
  replace hla := hzB.repL hla
  replace hlb := hzB.repL hlb
  have hO7 := id hla
  obtain ⟨b1, o1, hsl1, hreps1⟩ := hO7
  have hO8 := hsl1.form
  obtain ⟨a1', c1', e1, hfa1⟩ := hO8
  cases e1
  have hO9 := id hlb
  obtain ⟨b2, o2, hsl2, hreps2⟩ := hO9
  have hO10 := hsl2.form
  obtain ⟨a2', c2', e2, hfa2⟩ := hO10
  cases e2
  have hO11 : ∃ y, y = w := ⟨_, rfl⟩
  obtain ⟨wB, hwB⟩ := hO11
  subst hwB
  refine s_val rfl rfl (v_assign rfl rfl) ?_
  refine wpList_nil ?_
  refine wp_seq ?_
  refine wp_region_lit ?_
  have hz := (Fz.refl wB L R).trans (Fz.nilRow 35 29)
  replace cx := cx.nilRow 35 29
  refine s_val rfl rfl (v_assign rfl rfl) ?_
  refine wpList_nil ?_
  refine wp_seq ?_
  refine wp_region_lit ?_
  refine s_val rfl rfl (v_assign rfl rfl) ?_
  refine s_val rfl rfl (v_assign rfl rfl) ?_
  refine wpList_nil ?_
  refine wp_seq ?_
  refine wp_seq ?_
  refine wp_region_lit ?_
  refine s_val rfl rfl (v_assign rfl rfl) ?_
  refine wpList_nil ?_
  refine wp_block ?_
  refine w_loop (fun k f w1 => ∃ (t : Nat) (v : Value) (rs : List (List Value)), k + t = PP.length ∧ f 0 = ps ∧ f 1 = .slice a1 a.length c1 ∧ f 2 = .slice a2 b.length c2 ∧ f 7 = .slice (some ⟨g, 0, none⟩) PP.length c22 ∧ f 8 = v ∧ f 9 = .int .i64 ((aft (PP.take t) 0 0).1 : Nat) ∧ f 10 = .int .i64 ((aft (PP.take t) 0 0).2 : Nat) ∧ f 11 = .int .i64 (t : Nat) ∧ LpC wb wB L R L R 0 [] (lstC (btw E d) p a b (PP.take t) 0 0) v rs w1) (PP.length) ?_ ?_
  · skip
    exact ⟨0, .slice none 0 0, [], by omega, rfl, rfl, rfl, rfl, rfl, rfl, rfl, rfl, (LpC.zero cx hz).cast (by simp [lstC])⟩
  intro gk6 f w hJ
  obtain ⟨t, v, rs, hkt, hs0, hs1, hs2, hs7, hs8, hs9, hs10, hs11, cx, hz, hcf⟩ := hJ
  refine wp_seq ?_
  refine wp_seq ?_
  refine wp_region_lit ?_
  refine s_val rfl rfl (v_move rfl hs11) ?_
  refine s_val rfl rfl (v_move rfl hs7) ?_
  refine s_val rfl rfl (v_lenSlice rfl rfl Try.underlying41) ?_
  refine s_val rfl rfl (v_cmp rfl rfl rfl rfl) ?_
  refine wpList_nil ?_
  refine c_split rfl (fun hc26 => ?_) (fun hc26 => ?_)
  · skip
    try simp only [Bool.and_eq_true, Bool.or_eq_true, Bool.and_eq_false_iff, Bool.or_eq_false_iff, Bool.not_eq_true', Bool.not_eq_false', decide_eq_true_eq, decide_eq_false_iff_not, beq_iff_eq, beq_eq_false_iff_ne, bne_iff_ne, bne_eq_false_iff_eq, ne_eq, Classical.not_not] at hc26
    have htl : t < PP.length := by omega
    have hO12 : ∃ i j, aft (PP.take t) 0 0 = (i, j) := ⟨_, _, rfl⟩
    obtain ⟨i, j, hij⟩ := hO12
    have hO13 : ∃ x y, PP[t] = (x, y) := ⟨_, _, rfl⟩
    obtain ⟨x, y, hxy⟩ := hO13
    have hin := inc_aft PP 0 0 t hinc htl
    have hpt : PP[t]? = some (x, y) := by rw [List.getElem?_eq_getElem htl, hxy]
    rw [hij, hxy] at hin
    rw [hij] at hs9 hs10
    obtain ⟨hix, hjy, hxa, hyb⟩ := hin
    dsimp only at hix hjy hxa hyb hs9 hs10
    have hO14 : ∃ M, M = min (x - i) (y - j) := ⟨_, rfl⟩
    obtain ⟨M, hM⟩ := hO14
    have hbl := lstC_le (btw E d) p a b PP (t + 1)
    have hlt := lstC_take (btw E d) p a b htl
    rw [hij, hxy] at hlt
    dsimp only at hlt
    rw [gapC_M _ _ _ _ _ _ _ _ M hM] at hlt
    rw [hlt] at hbl
    simp only [List.length_append, gp2_len, gp3_len] at hbl
    refine wp_skip ?_
    refine wp_seq ?_
    refine wp_block ?_
    refine wp_seq ?_
    refine wp_block ?_
    refine w_loop (fun k f w1 => ∃ (s : Nat) (v : Value) (rs : List (List Value)), k + s = M ∧ f 0 = ps ∧ f 1 = .slice a1 a.length c1 ∧ f 2 = .slice a2 b.length c2 ∧ f 7 = .slice (some ⟨g, 0, none⟩) PP.length c22 ∧ f 8 = v ∧ f 9 = .int .i64 (i + s : Nat) ∧ f 10 = .int .i64 (j + s : Nat) ∧ f 11 = .int .i64 (t : Nat) ∧ LpC wb wB L R L R 0 [] ((lstC (btw E d) p a b (PP.take t) 0 0) ++ gp1 (btw E d) p a b i j s) v rs w1) (M) ?_ ?_
    · skip
      exact ⟨0, v, rs, by omega, hs0, hs1, hs2, hs7, hs8, hs9, hs10, hs11, LpC.cast (LpC.of rfl rfl cx hz hcf) (by rw [gp1_zero, List.append_nil])⟩
    intro gk8 f w hJ
    obtain ⟨s, v, rs, hks, hs0, hs1, hs2, hs7, hs8, hs9, hs10, hs11, cx, hz, hcf⟩ := hJ
    have hrg := hz.row hrowB hFg
    refine wp_seq ?_
    refine wp_seq ?_
    refine wp_region_lit ?_
    refine s_val rfl rfl (v_move rfl hs9) ?_
    refine s_val rfl rfl (v_move rfl hs7) ?_
    refine s_val rfl rfl (v_move rfl hs11) ?_
    refine s_val rfl rfl (v_ia Try.underlying41 sz43 rfl rfl rfl (by omega) (by omega)) ?_
    refine s_val rfl rfl (v_iaR (r := 0 + t * 2) Try.underlying43 sz3 rfl rfl rfl (by omega) (by omega) (by rw [Int.toNat_natCast]; rfl)) ?_
    refine s_val rfl rfl (v_load1 rfl rfl Try.underlying3 rfl (hrg (t * 2) (.int .i64 (x : Int)) (qflat_at hpt).1)) ?_
    refine s_val rfl rfl (v_cmp rfl rfl rfl rfl) ?_
    refine s_val rfl rfl (v_move rfl rfl) ?_
    refine s_gval rfl rfl rfl (by first | exact w_tt rfl | exact w_gt rfl) (fun hc => v_move rfl hs10) ?_
    refine s_gval rfl rfl rfl (by first | exact w_tt rfl | exact w_gt rfl) (fun hc => v_move rfl hs7) ?_
    refine s_gval rfl rfl rfl (by first | exact w_tt rfl | exact w_gt rfl) (fun hc => v_move rfl hs11) ?_
    refine s_gval rfl rfl rfl (by first | exact w_tt rfl | exact w_gt rfl) (fun hc => v_ia Try.underlying41 sz43 rfl (gve hc rfl) (gve hc rfl) (by omega) (by omega)) ?_
    refine s_gval rfl rfl rfl (by first | exact w_tt rfl | exact w_gt rfl) (fun hc => v_iaR (r := 0 + (t * 2 + 1)) Try.underlying43 sz3 rfl (gve hc rfl) rfl (by omega) (by omega) (by rw [Int.toNat_natCast]; rfl)) ?_
    refine s_gval rfl rfl rfl (by first | exact w_tt rfl | exact w_gt rfl) (fun hc => v_load1 rfl (gve hc rfl) Try.underlying3 rfl (hrg ((t * 2 + 1)) (.int .i64 (y : Int)) (qflat_at hpt).2)) ?_
    refine s_gval rfl rfl rfl (by first | exact w_tt rfl | exact w_gt rfl) (fun hc => v_cmp rfl (by first | exact gve hc rfl | exact gve (and_l hc) rfl | exact gve (and_l (and_l hc)) rfl | rfl) (by first | exact gve hc rfl | exact gve (and_l hc) rfl | exact gve (and_l (and_l hc)) rfl | rfl) rfl) ?_
    refine s_val rfl rfl (v_and rfl rfl rfl rfl) ?_
    refine wpList_nil ?_
    refine c_split rfl (fun hc44 => ?_) (fun hc44 => ?_)
    · skip
      try simp only [Bool.and_eq_true, Bool.or_eq_true, Bool.and_eq_false_iff, Bool.or_eq_false_iff, Bool.not_eq_true', Bool.not_eq_false', decide_eq_true_eq, decide_eq_false_iff_not, beq_iff_eq, beq_eq_false_iff_ne, bne_iff_ne, bne_eq_false_iff_eq, ne_eq, Classical.not_not] at hc44
      have hsM : s < M := by omega
      have hg1 := gp1_le (btw E d) p a b i j (show s + 1 ≤ M by omega)
      have hO15 := hfa1 (by omega)
      obtain rfl := hO15
      have hF1 := hsl1.inA (by omega)
      have hO16 := lst_at hz hreps1 (i := i + s) (by omega) hF1
      obtain ⟨r1, hr1, hv1⟩ := hO16
      replace hF1 := hz.up _ hF1
      have hge1 := getD_at (l := a) (i := i + s) (by omega)
      have hO17 := hfa2 (by omega)
      obtain rfl := hO17
      have hF2 := hsl2.inA (by omega)
      have hO18 := lst_at hz hreps2 (i := j + s) (by omega) hF2
      obtain ⟨r2, hr2, hv2⟩ := hO18
      replace hF2 := hz.up _ hF2
      have hge2 := getD_at (l := b) (i := j + s) (by omega)
      rw [gp1_succ, hge1, hge2, List.length_append] at hg1
      have hh := hz.self
      refine wp_skip ?_
      refine wp_block ?_
      refine wp_seq ?_
      refine w_ordK cx (Ctx.sub0 cx) hh.kp mixed [(0, 45), (1, 46), (2, 47), (4, 49), (5, 50), (6, 51), (7, 52), (8, 53), (9, 54), (10, 55), (11, 56)] #[true, true, true, false, true, true, true, true, true, true, true, true, false, false, false] (by kernel_rfl) (by kernel_rfl) (by kernel_rfl) (by kernel_rfl) ?_
      refine pu_one rfl (wnt_none rfl) (fun w hS => by obtain ⟨cx, hkS⟩ := hS; exact v_move rfl hs8) ?_
      refine pu_one rfl (wnt_none rfl) (fun w hS => by obtain ⟨cx, hkS⟩ := hS; exact v_move rfl hs0) ?_
      refine pu_one rfl (wnt_none rfl) (fun w hS => by obtain ⟨cx, hkS⟩ := hS; exact v_move rfl hs10) ?_
      refine pu_one rfl (wnt_none rfl) (fun w hS => by obtain ⟨cx, hkS⟩ := hS; exact v_move rfl hs1) ?_
      refine pu_one rfl (wnt_none rfl) (fun w hS => by obtain ⟨cx, hkS⟩ := hS; exact v_move rfl hs9) ?_
      refine pu_one rfl (wnt_none rfl) (fun w hS => by obtain ⟨cx, hkS⟩ := hS; exact v_ia Try.underlying30 sz33 rfl rfl rfl (by omega) (by omega)) ?_
      refine pu_one rfl (wnt_none rfl) (fun w hS => by obtain ⟨cx, hkS⟩ := hS; exact v_load rfl rfl Try.underlying33 rfl sz33 (hr1.keep (hkS _ hF1)) hv1.len) ?_
      refine pu_one rfl (wnt_none rfl) (fun w hS => by obtain ⟨cx, hkS⟩ := hS; exact v_move rfl hs2) ?_
      refine pu_one rfl (wnt_none rfl) (fun w hS => by obtain ⟨cx, hkS⟩ := hS; exact v_move rfl hs10) ?_
      refine pu_one rfl (wnt_none rfl) (fun w hS => by obtain ⟨cx, hkS⟩ := hS; exact v_ia Try.underlying30 sz33 rfl rfl rfl (by omega) (by omega)) ?_
      refine pu_one rfl (wnt_none rfl) (fun w hS => by obtain ⟨cx, hkS⟩ := hS; exact v_load rfl rfl Try.underlying33 rfl sz33 (hr2.keep (hkS _ hF2)) hv2.len) ?_
      refine pu_nil ?_; intro w cx hwD9 hkS9
      replace hh := hh.trans (Fz.belC cx hwD9)
      replace hv1 := (Fz.belC cx hwD9).rep hv1
      replace hv2 := (Fz.belC cx hwD9).rep hv2
      refine x_one (i := 3) (by kernel_rfl) rfl ?_
      have cx48 := cx
      refine s_fn cx (c85 (j + s) _ p _ _ F.lt ((hz.trans hh).pth hpp) (by omega)) Try.func85 rfl rfl rfl rfl rfl rfl ?_; intro q48 w cx hw48 hp48
      replace hp48 := hp48.fr cx48 hw48.size
      replace hh := hh.trans (Fz.belC cx hw48)
      replace hv1 := (Fz.belC cx hw48).rep hv1
      replace hv2 := (Fz.belC cx hw48).rep hv2
      refine x_next ⟨.inl ⟨Ctx.sub0 cx, hh.kp⟩, ?_⟩
      refine x_one (i := 12) (by kernel_rfl) rfl ?_
      refine s_callR rfl rfl (runs_fn Try.func66 rfl rfl rfl rfl) (ih wb _ _ (p ++ [idxS (j + s)]) _ a[i + s] b[j + s] _ _ _ cx hp48 hv1 hv2 (hoa _ (List.getElem_mem _)).1 (hob _ (List.getElem_mem _)).1 (hoa _ (List.getElem_mem _)).2 (hob _ (List.getElem_mem _)).2 (hnar _ (List.getElem_mem _) _ (List.getElem_mem _)) (by rw [List.length_append, List.length_singleton]; omega) (by omega) (by omega)) ?_; intro q57 w hp57
      obtain ⟨rs2, cx, hz2, hcf2⟩ := hp57
      replace hh := (hh.trans hz2).trans Fz.swap
      replace cx := cx.swap
      replace hcf2 := Fz.swap.chs hcf2
      refine x_next ⟨.inl ⟨Ctx.sub0 cx, hh.kp⟩, ?_⟩
      refine x_one (i := 13) (by kernel_rfl) rfl ?_
      have hrow2 := cx.row2
      refine s_appendS cx ei35 Try.underlying22 rfl rfl rfl rfl rfl (src_rowk hrow2) (by rw [List.nil_append, Nat.zero_add]; exact chs_flat hcf2) (by rw [List.nil_append]; exact chs_one hcf2) (by simp only [List.length_append]; omega) ?_; intro v58 w cx hgr58 hnw58
      replace hh := (hh.trans (Fz.appC cx hgr58 hnw58)).trans (Fz.swap.trans Fz.tlR)
      replace hcf2 := (Fz.swap.trans Fz.tlR).chs ((Fz.appC cx hgr58 hnw58).chs hcf2)
      replace cx := cx.swap.tlR
      refine x_next ⟨.inr (by kernel_rfl), ?_⟩
      refine x_one (i := 14) (by kernel_rfl) rfl ?_
      refine s_val rfl rfl (v_assign rfl rfl) ?_
      refine x_next ⟨.inr (by kernel_rfl), ?_⟩
      refine x_done (by kernel_rfl) ?_
      refine wp_seq ?_
      refine wp_region_lit ?_
      refine s_val rfl rfl (v_move rfl hs9) ?_
      refine s_val rfl rfl (v_addQ rfl rfl rfl (r := ((i + s + 1 : Nat) : Int)) (by omega) (by omega) (by omega)) ?_
      refine s_val rfl rfl (v_assign rfl rfl) ?_
      refine wpList_nil ?_
      refine wp_region_lit ?_
      refine s_val rfl rfl (v_move rfl hs10) ?_
      refine s_val rfl rfl (v_addQ rfl rfl rfl (r := ((j + s + 1 : Nat) : Int)) (by omega) (by omega) (by omega)) ?_
      refine s_val rfl rfl (v_assign rfl rfl) ?_
      refine wpList_nil ?_
      refine ⟨gk8 - 1, _, by omega, rfl, s + 1, v58, rs ++ rs2, by omega, hs0, hs1, hs2, hs7, rfl, rfl, rfl, hs11, LpC.cast (LpC.of ?_ ?_ cx (hz.trans hh) (Rws.append (hh.chs hcf) hcf2)) (by rw [gp1_succ, hge1, hge2, List.append_assoc])⟩
      · simp only [List.length_append]; omega
      · simp
    · skip
      try simp only [Bool.and_eq_true, Bool.or_eq_true, Bool.and_eq_false_iff, Bool.or_eq_false_iff, Bool.not_eq_true', Bool.not_eq_false', decide_eq_true_eq, decide_eq_false_iff_not, beq_iff_eq, beq_eq_false_iff_ne, bne_iff_ne, bne_eq_false_iff_eq, ne_eq, Classical.not_not] at hc44
      refine wp_exit ?_
      refine wp_seq ?_
      refine wp_block ?_
      have hsM : M = s := by omega
      subst hsM
      refine w_loop (fun k f w1 => ∃ (s : Nat) (v : Value) (rs : List (List Value)), k + s = x - i - (y - j) ∧ f 0 = ps ∧ f 1 = .slice a1 a.length c1 ∧ f 2 = .slice a2 b.length c2 ∧ f 7 = .slice (some ⟨g, 0, none⟩) PP.length c22 ∧ f 8 = v ∧ f 9 = .int .i64 (i + M + s : Nat) ∧ f 10 = .int .i64 (j + M : Nat) ∧ f 11 = .int .i64 (t : Nat) ∧ LpC wb wB L R L R 0 [] ((lstC (btw E d) p a b (PP.take t) 0 0) ++ gp1 (btw E d) p a b i j M ++ gp2 p a i j M s) v rs w1) (x - i - (y - j)) ?_ ?_
      · skip
        exact ⟨0, v, rs, by omega, hs0, hs1, hs2, hs7, hs8, hs9, hs10, hs11, LpC.cast (LpC.of rfl rfl cx hz hcf) (by rw [gp2_zero, List.append_nil])⟩
      intro gk12 f w hJ
      obtain ⟨s, v, rs, hks, hs0, hs1, hs2, hs7, hs8, hs9, hs10, hs11, cx, hz, hcf⟩ := hJ
      have hrg := hz.row hrowB hFg
      refine wp_seq ?_
      refine wp_seq ?_
      refine wp_region_lit ?_
      refine s_val rfl rfl (v_move rfl hs9) ?_
      refine s_val rfl rfl (v_move rfl hs7) ?_
      refine s_val rfl rfl (v_move rfl hs11) ?_
      refine s_val rfl rfl (v_ia Try.underlying41 sz43 rfl rfl rfl (by omega) (by omega)) ?_
      refine s_val rfl rfl (v_iaR (r := 0 + t * 2) Try.underlying43 sz3 rfl rfl rfl (by omega) (by omega) (by rw [Int.toNat_natCast]; rfl)) ?_
      refine s_val rfl rfl (v_load1 rfl rfl Try.underlying3 rfl (hrg (t * 2) (.int .i64 (x : Int)) (qflat_at hpt).1)) ?_
      refine s_val rfl rfl (v_cmp rfl rfl rfl rfl) ?_
      refine wpList_nil ?_
      refine c_split rfl (fun hc69 => ?_) (fun hc69 => ?_)
      · skip
        try simp only [Bool.and_eq_true, Bool.or_eq_true, Bool.and_eq_false_iff, Bool.or_eq_false_iff, Bool.not_eq_true', Bool.not_eq_false', decide_eq_true_eq, decide_eq_false_iff_not, beq_iff_eq, beq_eq_false_iff_ne, bne_iff_ne, bne_eq_false_iff_eq, ne_eq, Classical.not_not] at hc69
        have hsM : s < x - i - (y - j) := by omega
        have hO19 := hfa1 (by omega)
        obtain rfl := hO19
        have hF1 := hsl1.inA (by omega)
        have hO20 := lst_at hz hreps1 (i := i + M + s) (by omega) hF1
        obtain ⟨r1, hr1, hv1⟩ := hO20
        replace hF1 := hz.up _ hF1
        have hge1 := getD_at (l := a) (i := i + M + s) (by omega)
        have hO21 := hv1.open
        obtain ⟨ebs, els, efs, rfl, _⟩ := hO21
        have hh := hz.self
        refine wp_skip ?_
        refine wp_block ?_
        refine wp_seq ?_
        refine w_ordK cx (Ctx.sub0 cx) hh.kp mixed [(0, 70), (1, 71), (2, 72), (4, 74), (5, 75), (6, 76), (7, 77)] #[true, true, true, false, true, true, true, true, false, false, false, false] (by kernel_rfl) (by kernel_rfl) (by kernel_rfl) (by kernel_rfl) ?_
        refine pu_one rfl (wnt_none rfl) (fun w hS => by obtain ⟨cx, hkS⟩ := hS; exact v_move rfl hs8) ?_
        refine pu_one rfl (wnt_none rfl) (fun w hS => by obtain ⟨cx, hkS⟩ := hS; exact v_move rfl hs0) ?_
        refine pu_one rfl (wnt_none rfl) (fun w hS => by obtain ⟨cx, hkS⟩ := hS; exact v_move rfl hs10) ?_
        refine pu_one rfl (wnt_none rfl) (fun w hS => by obtain ⟨cx, hkS⟩ := hS; exact v_move rfl hs1) ?_
        refine pu_one rfl (wnt_none rfl) (fun w hS => by obtain ⟨cx, hkS⟩ := hS; exact v_move rfl hs9) ?_
        refine pu_one rfl (wnt_none rfl) (fun w hS => by obtain ⟨cx, hkS⟩ := hS; exact v_ia Try.underlying30 sz33 rfl rfl rfl (by omega) (by omega)) ?_
        refine pu_one rfl (wnt_none rfl) (fun w hS => by obtain ⟨cx, hkS⟩ := hS; exact v_load rfl rfl Try.underlying33 rfl sz33 (hr1.keep (hkS _ hF1)) hv1.len) ?_
        refine pu_nil ?_; intro w cx hwD13 hkS13
        replace hh := hh.trans (Fz.belC cx hwD13)
        replace hv1 := (Fz.belC cx hwD13).rep hv1
        refine x_one (i := 3) (by kernel_rfl) rfl ?_
        have cx73 := cx
        refine s_fn cx (c85 (j + M) _ p _ _ F.lt ((hz.trans hh).pth hpp) (by omega)) Try.func85 rfl rfl rfl rfl rfl rfl ?_; intro q73 w cx hw73 hp73
        replace hp73 := hp73.fr cx73 hw73.size
        replace hh := hh.trans (Fz.belC cx hw73)
        replace hv1 := (Fz.belC cx hw73).rep hv1
        refine x_next ⟨.inl ⟨Ctx.sub0 cx, hh.kp⟩, ?_⟩
        refine x_one (i := 8) (by kernel_rfl) rfl ?_
        have hO22 := hp73.sl
        obtain ⟨pa, pc, rfl⟩ := hO22
        refine s_val rfl rfl (v_build (bd35r _ _ _ _ _ _ _) rfl rfl) ?_
        refine x_next ⟨.inl ⟨Ctx.sub0 cx, hh.kp⟩, ?_⟩
        refine x_one (i := 9) (by kernel_rfl) rfl ?_
        refine s_bsl1 cx Try.underlying22 sz35 z35 rfl rfl rfl rfl rfl rfl rfl rfl ?_; intro b79 w cx hb79 hw79
        have hr79 : RowAt w b79 0 (.int .i64 3 :: .slice pa (p ++ [idxS (j + M)]).length pc :: .int .i64 0 :: (vrow a[i + M + s].sc ebs els efs ++ vrow (zk 0) (.slice none 0 0) (.slice none 0 0) (.slice none 0 0))) := cx.row 0 rfl
        replace cx := cx.tl
        replace hh := hh.trans (Fz.belC cx hw79)
        replace hv1 := (Fz.belC cx hw79).rep hv1
        replace hp73 := (Fz.belC cx hw79).pth hp73
        refine x_next ⟨.inl ⟨Ctx.sub0 cx, hh.kp⟩, ?_⟩
        refine x_one (i := 10) (by kernel_rfl) rfl ?_
        have hcn : chA (F w _ _) w (⟨3, p ++ [idxS (j + M)], 0, a[i + M + s], nulV⟩ : Ch) (.int .i64 3 :: .slice pa (p ++ [idxS (j + M)]).length pc :: .int .i64 0 :: (vrow a[i + M + s].sc ebs els efs ++ vrow (zk 0) (.slice none 0 0) (.slice none 0 0) (.slice none 0 0))) := ⟨_, _, _, rfl, hp73, hv1, rep_nul⟩
        refine s_appendG (m := 1) cx ei35 Try.underlying22 rfl rfl rfl rfl rfl hr79 rfl (chA.one _ _ hcn) (by simp only [List.length_append, gp2_len]; omega) ?_; intro v80 w cx hgr80 hnw80
        replace hh := hh.trans (Fz.appC cx hgr80 hnw80)
        replace hcn := (Fz.appC cx hgr80 hnw80).ch1 hcn
        refine x_next ⟨.inr (by kernel_rfl), ?_⟩
        refine x_one (i := 11) (by kernel_rfl) rfl ?_
        refine s_val rfl rfl (v_assign rfl rfl) ?_
        refine x_next ⟨.inr (by kernel_rfl), ?_⟩
        refine x_done (by kernel_rfl) ?_
        refine wp_region_lit ?_
        refine s_val rfl rfl (v_move rfl hs9) ?_
        refine s_val rfl rfl (v_addQ rfl rfl rfl (r := ((i + M + s + 1 : Nat) : Int)) (by omega) (by omega) (by omega)) ?_
        refine s_val rfl rfl (v_assign rfl rfl) ?_
        refine wpList_nil ?_
        refine ⟨gk12 - 1, _, by omega, rfl, s + 1, v80, rs ++ [_], by omega, hs0, hs1, hs2, hs7, rfl, rfl, hs10, hs11, LpC.cast (S := ((lstC (btw E d) p a b (PP.take t) 0 0) ++ gp1 (btw E d) p a b i j M ++ gp2 p a i j M s) ++ [⟨3, p ++ [idxS (j + M)], 0, a[i + M + s], nulV⟩]) (LpC.of ?_ ?_ cx (hz.trans hh) (Rws.append (hh.chs hcf) ⟨hcn, trivial⟩)) (by rw [gp2_succ, hge1, List.append_assoc])⟩
        · simp only [List.length_append, List.length_singleton]; omega
        · simp
      · skip
        try simp only [Bool.and_eq_true, Bool.or_eq_true, Bool.and_eq_false_iff, Bool.or_eq_false_iff, Bool.not_eq_true', Bool.not_eq_false', decide_eq_true_eq, decide_eq_false_iff_not, beq_iff_eq, beq_eq_false_iff_ne, bne_iff_ne, bne_eq_false_iff_eq, ne_eq, Classical.not_not] at hc69
        refine wp_exit ?_
        refine wp_seq ?_
        refine wp_block ?_
        have hsM : s = x - i - (y - j) := by omega
        subst hsM
        have hxe : i + M + (x - i - (y - j)) = x := by omega
        rw [hxe] at hs9
        refine w_loop (fun k f w1 => ∃ (s : Nat) (v : Value) (rs : List (List Value)), k + s = y - j - (x - i) ∧ f 0 = ps ∧ f 1 = .slice a1 a.length c1 ∧ f 2 = .slice a2 b.length c2 ∧ f 7 = .slice (some ⟨g, 0, none⟩) PP.length c22 ∧ f 8 = v ∧ f 9 = .int .i64 (x : Nat) ∧ f 10 = .int .i64 (j + M + s : Nat) ∧ f 11 = .int .i64 (t : Nat) ∧ LpC wb wB L R L R 0 [] ((lstC (btw E d) p a b (PP.take t) 0 0) ++ gp1 (btw E d) p a b i j M ++ gp2 p a i j M (x - i - (y - j)) ++ gp3 p b j M s) v rs w1) (y - j - (x - i)) ?_ ?_
        · skip
          exact ⟨0, v, rs, by omega, hs0, hs1, hs2, hs7, hs8, hs9, hs10, hs11, LpC.cast (LpC.of rfl rfl cx hz hcf) (by rw [gp3_zero, List.append_nil])⟩
        intro gk15 f w hJ
        obtain ⟨s, v, rs, hks, hs0, hs1, hs2, hs7, hs8, hs9, hs10, hs11, cx, hz, hcf⟩ := hJ
        have hrg := hz.row hrowB hFg
        refine wp_seq ?_
        refine wp_seq ?_
        refine wp_region_lit ?_
        refine s_val rfl rfl (v_move rfl hs10) ?_
        refine s_val rfl rfl (v_move rfl hs7) ?_
        refine s_val rfl rfl (v_move rfl hs11) ?_
        refine s_val rfl rfl (v_ia Try.underlying41 sz43 rfl rfl rfl (by omega) (by omega)) ?_
        refine s_val rfl rfl (v_iaR (r := 0 + (t * 2 + 1)) Try.underlying43 sz3 rfl rfl rfl (by omega) (by omega) (by rw [Int.toNat_natCast]; rfl)) ?_
        refine s_val rfl rfl (v_load1 rfl rfl Try.underlying3 rfl (hrg ((t * 2 + 1)) (.int .i64 (y : Int)) (qflat_at hpt).2)) ?_
        refine s_val rfl rfl (v_cmp rfl rfl rfl rfl) ?_
        refine wpList_nil ?_
        refine c_split rfl (fun hc89 => ?_) (fun hc89 => ?_)
        · skip
          try simp only [Bool.and_eq_true, Bool.or_eq_true, Bool.and_eq_false_iff, Bool.or_eq_false_iff, Bool.not_eq_true', Bool.not_eq_false', decide_eq_true_eq, decide_eq_false_iff_not, beq_iff_eq, beq_eq_false_iff_ne, bne_iff_ne, bne_eq_false_iff_eq, ne_eq, Classical.not_not] at hc89
          have hsM : s < y - j - (x - i) := by omega
          have hO23 := hfa2 (by omega)
          obtain rfl := hO23
          have hF2 := hsl2.inA (by omega)
          have hO24 := lst_at hz hreps2 (i := j + M + s) (by omega) hF2
          obtain ⟨r2, hr2, hv2⟩ := hO24
          replace hF2 := hz.up _ hF2
          have hge2 := getD_at (l := b) (i := j + M + s) (by omega)
          have hO25 := hv2.open
          obtain ⟨ebs, els, efs, rfl, _⟩ := hO25
          have hh := hz.self
          refine wp_skip ?_
          refine wp_block ?_
          refine wp_seq ?_
          refine w_ordK cx (Ctx.sub0 cx) hh.kp mixed [(0, 90), (1, 91), (2, 92), (4, 94), (5, 95), (6, 96), (7, 97)] #[true, true, true, false, true, true, true, true, false, false, false, false] (by kernel_rfl) (by kernel_rfl) (by kernel_rfl) (by kernel_rfl) ?_
          refine pu_one rfl (wnt_none rfl) (fun w hS => by obtain ⟨cx, hkS⟩ := hS; exact v_move rfl hs8) ?_
          refine pu_one rfl (wnt_none rfl) (fun w hS => by obtain ⟨cx, hkS⟩ := hS; exact v_move rfl hs0) ?_
          refine pu_one rfl (wnt_none rfl) (fun w hS => by obtain ⟨cx, hkS⟩ := hS; exact v_move rfl hs10) ?_
          refine pu_one rfl (wnt_none rfl) (fun w hS => by obtain ⟨cx, hkS⟩ := hS; exact v_move rfl hs2) ?_
          refine pu_one rfl (wnt_none rfl) (fun w hS => by obtain ⟨cx, hkS⟩ := hS; exact v_move rfl hs10) ?_
          refine pu_one rfl (wnt_none rfl) (fun w hS => by obtain ⟨cx, hkS⟩ := hS; exact v_ia Try.underlying30 sz33 rfl rfl rfl (by omega) (by omega)) ?_
          refine pu_one rfl (wnt_none rfl) (fun w hS => by obtain ⟨cx, hkS⟩ := hS; exact v_load rfl rfl Try.underlying33 rfl sz33 (hr2.keep (hkS _ hF2)) hv2.len) ?_
          refine pu_nil ?_; intro w cx hwD16 hkS16
          replace hh := hh.trans (Fz.belC cx hwD16)
          replace hv2 := (Fz.belC cx hwD16).rep hv2
          refine x_one (i := 3) (by kernel_rfl) rfl ?_
          have cx93 := cx
          refine s_fn cx (c85 (j + M + s) _ p _ _ F.lt ((hz.trans hh).pth hpp) (by omega)) Try.func85 rfl rfl rfl rfl rfl rfl ?_; intro q93 w cx hw93 hp93
          replace hp93 := hp93.fr cx93 hw93.size
          replace hh := hh.trans (Fz.belC cx hw93)
          replace hv2 := (Fz.belC cx hw93).rep hv2
          refine x_next ⟨.inl ⟨Ctx.sub0 cx, hh.kp⟩, ?_⟩
          refine x_one (i := 8) (by kernel_rfl) rfl ?_
          have hO26 := hp93.sl
          obtain ⟨pa, pc, rfl⟩ := hO26
          refine s_val rfl rfl (v_build (bd35a _ _ _ _ _ _ _) rfl rfl) ?_
          refine x_next ⟨.inl ⟨Ctx.sub0 cx, hh.kp⟩, ?_⟩
          refine x_one (i := 9) (by kernel_rfl) rfl ?_
          refine s_bsl1 cx Try.underlying22 sz35 z35 rfl rfl rfl rfl rfl rfl rfl rfl ?_; intro b99 w cx hb99 hw99
          have hr99 : RowAt w b99 0 (.int .i64 2 :: .slice pa (p ++ [idxS (j + M + s)]).length pc :: .int .i64 0 :: (vrow (zk 0) (.slice none 0 0) (.slice none 0 0) (.slice none 0 0) ++ vrow b[j + M + s].sc ebs els efs)) := cx.row 0 rfl
          replace cx := cx.tl
          replace hh := hh.trans (Fz.belC cx hw99)
          replace hv2 := (Fz.belC cx hw99).rep hv2
          replace hp93 := (Fz.belC cx hw99).pth hp93
          refine x_next ⟨.inl ⟨Ctx.sub0 cx, hh.kp⟩, ?_⟩
          refine x_one (i := 10) (by kernel_rfl) rfl ?_
          have hcn : chA (F w _ _) w (⟨2, p ++ [idxS (j + M + s)], 0, nulV, b[j + M + s]⟩ : Ch) (.int .i64 2 :: .slice pa (p ++ [idxS (j + M + s)]).length pc :: .int .i64 0 :: (vrow (zk 0) (.slice none 0 0) (.slice none 0 0) (.slice none 0 0) ++ vrow b[j + M + s].sc ebs els efs)) := ⟨_, _, _, rfl, hp93, rep_nul, hv2⟩
          refine s_appendG (m := 1) cx ei35 Try.underlying22 rfl rfl rfl rfl rfl hr99 rfl (chA.one _ _ hcn) (by simp only [List.length_append, gp2_len, gp3_len]; omega) ?_; intro v100 w cx hgr100 hnw100
          replace hh := hh.trans (Fz.appC cx hgr100 hnw100)
          replace hcn := (Fz.appC cx hgr100 hnw100).ch1 hcn
          refine x_next ⟨.inr (by kernel_rfl), ?_⟩
          refine x_one (i := 11) (by kernel_rfl) rfl ?_
          refine s_val rfl rfl (v_assign rfl rfl) ?_
          refine x_next ⟨.inr (by kernel_rfl), ?_⟩
          refine x_done (by kernel_rfl) ?_
          refine wp_region_lit ?_
          refine s_val rfl rfl (v_move rfl hs10) ?_
          refine s_val rfl rfl (v_addQ rfl rfl rfl (r := ((j + M + s + 1 : Nat) : Int)) (by omega) (by omega) (by omega)) ?_
          refine s_val rfl rfl (v_assign rfl rfl) ?_
          refine wpList_nil ?_
          refine ⟨gk15 - 1, _, by omega, rfl, s + 1, v100, rs ++ [_], by omega, hs0, hs1, hs2, hs7, rfl, hs9, rfl, hs11, LpC.cast (S := ((lstC (btw E d) p a b (PP.take t) 0 0) ++ gp1 (btw E d) p a b i j M ++ gp2 p a i j M (x - i - (y - j)) ++ gp3 p b j M s) ++ [⟨2, p ++ [idxS (j + M + s)], 0, nulV, b[j + M + s]⟩]) (LpC.of ?_ ?_ cx (hz.trans hh) (Rws.append (hh.chs hcf) ⟨hcn, trivial⟩)) (by rw [gp3_succ, hge2, List.append_assoc])⟩
          · simp only [List.length_append, List.length_singleton]; omega
          · simp
        · skip
          try simp only [Bool.and_eq_true, Bool.or_eq_true, Bool.and_eq_false_iff, Bool.or_eq_false_iff, Bool.not_eq_true', Bool.not_eq_false', decide_eq_true_eq, decide_eq_false_iff_not, beq_iff_eq, beq_eq_false_iff_ne, bne_iff_ne, bne_eq_false_iff_eq, ne_eq, Classical.not_not] at hc89
          refine wp_exit ?_
          refine wp_seq ?_
          refine wp_region_lit ?_
          refine s_val rfl rfl (v_move rfl hs9) ?_
          refine s_val rfl rfl (v_addQ rfl rfl rfl (r := ((x + 1 : Nat) : Int)) (by omega) (by omega) (by omega)) ?_
          refine s_val rfl rfl (v_assign rfl rfl) ?_
          refine wpList_nil ?_
          refine wp_region_lit ?_
          refine s_val rfl rfl (v_move rfl hs10) ?_
          refine s_val rfl rfl (v_addQ rfl rfl rfl (r := ((y + 1 : Nat) : Int)) (by omega) (by omega) (by omega)) ?_
          refine s_val rfl rfl (v_assign rfl rfl) ?_
          refine wpList_nil ?_
          refine wp_region_lit ?_
          refine s_val rfl rfl (v_move rfl hs11) ?_
          refine s_val rfl rfl (v_add rfl rfl rfl (by omega) (by omega)) ?_
          refine s_val rfl rfl (v_assign rfl rfl) ?_
          refine wpList_nil ?_
          refine ⟨gk6 - 1, _, by omega, rfl, t + 1, v, rs, by omega, hs0, hs1, hs2, hs7, hs8, by rw [aft_take htl, hxy]; rfl, by rw [aft_take htl, hxy]; rfl, rfl, LpC.cast (LpC.of rfl rfl cx hz hcf) ?_⟩
          rw [hlt, ← List.append_assoc, ← List.append_assoc, show s = y - j - (x - i) by omega]
  · skip
    try simp only [Bool.and_eq_true, Bool.or_eq_true, Bool.and_eq_false_iff, Bool.or_eq_false_iff, Bool.not_eq_true', Bool.not_eq_false', decide_eq_true_eq, decide_eq_false_iff_not, beq_iff_eq, beq_eq_false_iff_ne, bne_iff_ne, bne_eq_false_iff_eq, ne_eq, Classical.not_not] at hc26
    refine wp_exit ?_
    refine wp_seq ?_
    refine wp_region_lit ?_
    refine s_val rfl rfl (v_move rfl hs8) ?_
    refine s_val rfl rfl (v_assign rfl rfl) ?_
    refine wpList_nil ?_
    refine wp_ret ?_
    refine ret_tmp Try.results99 rfl ?_
    have htl : t = PP.length := by omega
    subst htl
    rw [List.take_of_length_le (Nat.le_refl _)] at cx hz hcf
    exact ⟨rs, LpC.of rfl rfl cx (hzB.trans hz) hcf⟩
end Go.Proofs.Ytmkihcdcgkdilaa
end
section
namespace Go.Proofs.Ytmkihcdcgkdilaa
open Go Go.Dk Go.RowKit
set_option linter.unusedSimpArgs false
set_option linter.unusedVariables false
attribute [local irreducible] Go.wpList Go.Code.wp Go.bodyPost Go.wpStill Go.wpQuiet
set_option maxRecDepth 10000 in
set_option maxHeartbeats 6400000 in
theorem c66 (E : V → V → Bool) (hE : ∀ x y, E x y = true ↔ canon x = canon y) : ∀ d, C66 E d := by
  intro d
  induction d with
  | zero => intro wb L R p ps a b ra rb w0 cx hpp hva hvb hoa; exact hoa.elim
  | succ d ih =>
  intro wb L R p ps a b ra rb w0 cx hpp hva hvb hoa hob hfa1 hfb1 hnar hpd hd48 hnb
  have hO1 := id (RepV.open hva)
  obtain ⟨abs, als, afs, rfl, _, hla, _⟩ := hO1
  have hO2 := id (RepV.open hvb)
  obtain ⟨bbs, bls, bfs, rfl, _, hlb, _⟩ := hO2
  have hO3 := hla.sl
  obtain ⟨la, lc, rfl⟩ := hO3
  have hO4 := hlb.sl
  obtain ⟨ma, mc, rfl⟩ := hO4
  have hO5 := hpp.sl
  obtain ⟨pa, pc, rfl⟩ := hO5
  refine ret_enter Try.func66 rfl Try.ntmps66 rfl ?_
  skip
  refine wp_seq ?_
  refine wp_region_lit ?_
  refine s_box cx rfl rfl rfl rfl rfl ?_; intro b4 w cx hb4 hw4
  refine s_box cx rfl rfl rfl rfl rfl ?_; intro b5 w cx hb5 hw5
  refine s_val rfl rfl (v_assign rfl rfl) ?_
  refine wpList_nil ?_
  refine wp_seq ?_
  refine wp_block ?_
  refine wp_seq ?_
  refine wp_region_lit ?_
  have hz : Fz w0 L R w ((b5, .cells (vrow b.sc bbs (.slice ma b.list.length mc) bfs).toArray 33) :: (b4, .cells (vrow a.sc abs (.slice la a.list.length lc) afs).toArray 33) :: L) R := (Fz.new hb4 hw4).trans (Fz.new hb5 hw5)
  refine s_val rfl rfl (v_load rfl rfl Try.underlying33 rfl sz33 (cx.row 1 rfl) rfl) ?_
  refine s_val rfl rfl (v_load rfl rfl Try.underlying33 rfl sz33 (cx.row 0 rfl) rfl) ?_
  refine s_fnB cx (c27 a b _ _ _ hfa1 hfb1 (hz.rep hva).val (hz.rep hvb).val) Try.func27 rfl rfl rfl rfl rfl rfl ?_; intro q10 w cx hw10 hp10
  replace hz := hz.trans (Fz.belC cx hw10)
  refine s_val rfl rfl (v_assign rfl rfl) ?_
  refine wpList_nil ?_
  refine c_split rfl (fun hc7 => ?_) (fun hc7 => ?_)
  · skip
    skip
    have hq : E a b = true := (hE a b).2 (hp10.1 hc7)
    refine wp_seq ?_
    refine wp_region_lit ?_
    refine s_val rfl rfl (v_assign rfl rfl) ?_
    refine wpList_nil ?_
    refine wp_ret ?_
    refine ret_tmp Try.results66 rfl ?_
    refine BtR.cast (btw_eq hq) ?_
    exact ⟨[], (LpC.zero (cx.nilRow 35 29) (hz.trans (Fz.nilRow 35 29))).drop 2⟩
  · skip
    skip
    have hnq : E a b = false := by
      rw [Bool.eq_false_iff]
      intro h
      rw [hp10.2 ((hE a b).1 h)] at hc7; cases hc7
    refine wp_seq ?_
    refine wp_region_lit ?_
    refine s_val rfl rfl (v_fa fa33_0 rfl rfl) ?_
    refine s_val rfl rfl (v_load1 rfl rfl Try.underlying3 rfl (cx.cell 1 rfl rfl)) ?_
    refine s_val rfl rfl (v_cmp rfl rfl rfl rfl) ?_
    refine s_val rfl rfl (v_move rfl rfl) ?_
    refine s_gval rfl rfl rfl (by first | exact w_tt rfl | exact w_gt rfl) (fun hc => v_fa fa33_0 rfl (by first | exact gve hc rfl | exact gve (and_l hc) rfl | exact gve (and_l (and_l hc)) rfl | rfl)) ?_
    refine s_gval rfl rfl rfl (by first | exact w_tt rfl | exact w_gt rfl) (fun hc => v_load1 rfl (by first | exact gve hc rfl | exact gve (and_l hc) rfl | exact gve (and_l (and_l hc)) rfl | rfl) Try.underlying3 rfl (cx.cell 0 rfl rfl)) ?_
    refine s_gval rfl rfl rfl (by first | exact w_tt rfl | exact w_gt rfl) (fun hc => v_cmp rfl (by first | exact gve hc rfl | exact gve (and_l hc) rfl | exact gve (and_l (and_l hc)) rfl | rfl) rfl rfl) ?_
    refine s_val rfl rfl (v_and rfl rfl rfl rfl) ?_
    refine s_val rfl rfl (v_assign rfl rfl) ?_
    refine wpList_nil ?_
    refine c_split rfl (fun hc11 => ?_) (fun hc11 => ?_)
    · skip
      try simp only [Bool.and_eq_true, Bool.or_eq_true, Bool.and_eq_false_iff, Bool.or_eq_false_iff, Bool.not_eq_true', Bool.not_eq_false', decide_eq_true_eq, decide_eq_false_iff_not, beq_iff_eq, beq_eq_false_iff_ne, bne_iff_ne, bne_eq_false_iff_eq, ne_eq, Classical.not_not] at hc11
      have hkk := hc11
      refine wp_seq ?_
      refine wp_region_lit ?_
      refine s_val rfl rfl (v_move rfl rfl) ?_
      refine s_val rfl rfl (v_load rfl rfl Try.underlying33 rfl sz33 (cx.row 1 rfl) rfl) ?_
      refine s_val rfl rfl (v_load rfl rfl Try.underlying33 rfl sz33 (cx.row 0 rfl) rfl) ?_
      refine s_callR rfl rfl (runs_fn Try.func98 rfl rfl rfl rfl) (c98 E d ih wb _ R p _ a b _ _ _ cx (hz.pth hpp) (hz.rep hva) (hz.rep hvb) hoa hob hfa1 hfb1 hnar hpd hd48 (by rw [btw_map hnq hkk.1 hkk.2] at hnb; exact hnb)) ?_; intro q23 w hp23
      refine s_val rfl rfl (v_assign rfl rfl) ?_
      refine wpList_nil ?_
      refine wp_ret ?_
      refine ret_tmp Try.results66 rfl ?_
      refine BtR.cast (btw_map hnq hkk.1 hkk.2) ?_
      obtain ⟨rs2, cx, hz2, hcf2⟩ := hp23
      exact ⟨rs2, (LpC.of rfl rfl cx (hz.trans hz2) hcf2).drop 2⟩
    · skip
      try simp only [Bool.and_eq_true, Bool.or_eq_true, Bool.and_eq_false_iff, Bool.or_eq_false_iff, Bool.not_eq_true', Bool.not_eq_false', decide_eq_true_eq, decide_eq_false_iff_not, beq_iff_eq, beq_eq_false_iff_ne, bne_iff_ne, bne_eq_false_iff_eq, ne_eq, Classical.not_not] at hc11
      have hnk : ¬ (a.sc.kind = 7 ∧ b.sc.kind = 7) := fun h => by
        rcases hc11 with h2 | h2
        · exact h2 h.1
        · exact h2 h.2
      refine wp_seq ?_
      refine wp_region_lit ?_
      refine s_val rfl rfl (v_fa fa33_0 rfl rfl) ?_
      refine s_val rfl rfl (v_load1 rfl rfl Try.underlying3 rfl (cx.cell 1 rfl rfl)) ?_
      refine s_val rfl rfl (v_cmp rfl rfl rfl rfl) ?_
      refine s_val rfl rfl (v_move rfl rfl) ?_
      refine s_gval rfl rfl rfl (by first | exact w_tt rfl | exact w_gt rfl) (fun hc => v_fa fa33_0 rfl (by first | exact gve hc rfl | exact gve (and_l hc) rfl | exact gve (and_l (and_l hc)) rfl | rfl)) ?_
      refine s_gval rfl rfl rfl (by first | exact w_tt rfl | exact w_gt rfl) (fun hc => v_load1 rfl (by first | exact gve hc rfl | exact gve (and_l hc) rfl | exact gve (and_l (and_l hc)) rfl | rfl) Try.underlying3 rfl (cx.cell 0 rfl rfl)) ?_
      refine s_gval rfl rfl rfl (by first | exact w_tt rfl | exact w_gt rfl) (fun hc => v_cmp rfl (by first | exact gve hc rfl | exact gve (and_l hc) rfl | exact gve (and_l (and_l hc)) rfl | rfl) rfl rfl) ?_
      refine s_val rfl rfl (v_and rfl rfl rfl rfl) ?_
      refine s_val rfl rfl (v_assign rfl rfl) ?_
      refine wpList_nil ?_
      refine c_split rfl (fun hc24 => ?_) (fun hc24 => ?_)
      · skip
        try simp only [Bool.and_eq_true, Bool.or_eq_true, Bool.and_eq_false_iff, Bool.or_eq_false_iff, Bool.not_eq_true', Bool.not_eq_false', decide_eq_true_eq, decide_eq_false_iff_not, beq_iff_eq, beq_eq_false_iff_ne, bne_iff_ne, bne_eq_false_iff_eq, ne_eq, Classical.not_not] at hc24
        have hll := hc24
        refine wp_seq ?_
        refine wp_region_lit ?_
        refine s_val rfl rfl (v_move rfl rfl) ?_
        refine s_val rfl rfl (v_fa fa33_6 rfl rfl) ?_
        refine s_val rfl rfl (v_load1 rfl rfl Try.underlying30 rfl (cx.cell 1 rfl rfl)) ?_
        refine s_val rfl rfl (v_fa fa33_6 rfl rfl) ?_
        refine s_val rfl rfl (v_load1 rfl rfl Try.underlying30 rfl (cx.cell 0 rfl rfl)) ?_
        refine s_callR rfl rfl (runs_fn Try.func99 rfl rfl rfl rfl) (c99 E hE d ih wb _ R p _ a.list b.list _ _ _ cx (hz.pth hpp) (hz.repL hla) (hz.repL hlb) (fun x hx => ⟨hoa.2.2.1 _ hx, hfa1.elem hx⟩) (fun x hx => ⟨hob.2.2.1 _ hx, hfb1.elem hx⟩) hnar.1 hnar.2.1 hnar.2.2.1 (fun x hx y hy => hnar.elem hx hy) hpd hd48 (by rw [btw_lst hnq hnk hll.1 hll.2] at hnb; exact hnb)) ?_; intro q38 w hp38
        refine s_val rfl rfl (v_assign rfl rfl) ?_
        refine wpList_nil ?_
        refine wp_ret ?_
        refine ret_tmp Try.results66 rfl ?_
        refine BtR.cast (btw_lst hnq hnk hll.1 hll.2) ?_
        obtain ⟨rs2, cx, hz2, hcf2⟩ := hp38
        exact ⟨rs2, (LpC.of rfl rfl cx (hz.trans hz2) hcf2).drop 2⟩
      · skip
        try simp only [Bool.and_eq_true, Bool.or_eq_true, Bool.and_eq_false_iff, Bool.or_eq_false_iff, Bool.not_eq_true', Bool.not_eq_false', decide_eq_true_eq, decide_eq_false_iff_not, beq_iff_eq, beq_eq_false_iff_ne, bne_iff_ne, bne_eq_false_iff_eq, ne_eq, Classical.not_not] at hc24
        have hnl : ¬ (a.sc.kind = 6 ∧ b.sc.kind = 6) := fun h => by
          rcases hc24 with h2 | h2
          · exact h2 h.1
          · exact h2 h.2
        refine wp_skip ?_
        refine wp_seq ?_
        refine wp_region_lit ?_
        refine s_val rfl rfl (v_move rfl rfl) ?_
        refine s_val rfl rfl (v_load rfl rfl Try.underlying33 rfl sz33 (cx.row 1 rfl) rfl) ?_
        refine s_val rfl rfl (v_load rfl rfl Try.underlying33 rfl sz33 (cx.row 0 rfl) rfl) ?_
        refine s_val rfl rfl (v_build (bd35c _ _ _ _ _ _ _ _ _ _ _) rfl rfl) ?_
        have hh := hz.self
        refine s_bsl1 cx Try.underlying22 sz35 z35 rfl rfl rfl rfl rfl rfl rfl rfl ?_; intro b43 w cx hb43 hw43
        replace hh := hh.trans (Fz.newC cx hb43 hw43)
        refine s_val rfl rfl (v_assign rfl rfl) ?_
        refine wpList_nil ?_
        refine wp_ret ?_
        refine ret_tmp Try.results66 rfl ?_
        refine BtR.cast (btw_rep hnq hnk hnl) ?_
        have hcn : chA (F w _ _) w (⟨1, p, 0, a, b⟩ : Ch) (.int .i64 1 :: .slice pa p.length pc :: .int .i64 0 :: (vrow a.sc abs (.slice la a.list.length lc) afs ++ vrow b.sc bbs (.slice ma b.list.length mc) bfs)) := ⟨_, _, _, rfl, (hz.trans hh).pth hpp, (hz.trans hh).rep hva, (hz.trans hh).rep hvb⟩
        have hTR := Fz.toRow (w := w) (L := ((b5, .cells (vrow b.sc bbs (.slice ma b.list.length mc) bfs).toArray 33) :: (b4, .cells (vrow a.sc abs (.slice la a.list.length lc) afs).toArray 33) :: L)) (R := R) (b := b43) (e := 35) (k := 29) (n := 1) (c := 1) (o := .cells (.int .i64 1 :: .slice pa p.length pc :: .int .i64 0 :: (vrow a.sc abs (.slice la a.list.length lc) afs ++ vrow b.sc bbs (.slice ma b.list.length mc) bfs)).toArray 35) (cs := .int .i64 1 :: .slice pa p.length pc :: .int .i64 0 :: (vrow a.sc abs (.slice la a.list.length lc) afs ++ vrow b.sc bbs (.slice ma b.list.length mc) bfs))
        exact ⟨[.int .i64 1 :: .slice pa p.length pc :: .int .i64 0 :: (vrow a.sc abs (.slice la a.list.length lc) afs ++ vrow b.sc bbs (.slice ma b.list.length mc) bfs)], (LpC.of (S := [⟨1, p, 0, a, b⟩]) (rs := [.int .i64 1 :: .slice pa p.length pc :: .int .i64 0 :: (vrow a.sc abs (.slice la a.list.length lc) afs ++ vrow b.sc bbs (.slice ma b.list.length mc) bfs)]) (k := 1) (X := .int .i64 1 :: .slice pa p.length pc :: .int .i64 0 :: (vrow a.sc abs (.slice la a.list.length lc) afs ++ vrow b.sc bbs (.slice ma b.list.length mc) bfs)) rfl (by simp) (cx.toRow (k := 1) (size := 29) rfl (by decide)) ((hz.trans hh).trans hTR) ⟨hTR.ch1 hcn, trivial⟩).drop 2⟩
end Go.Proofs.Ytmkihcdcgkdilaa
end
section
namespace Go.Proofs.Ytmkihcdcgkdilaa
open Go Go.Dk Go.RowKit
set_option linter.unusedSimpArgs false
set_option linter.unusedVariables false
attribute [local irreducible] Go.wpList Go.Code.wp Go.bodyPost Go.wpStill Go.wpQuiet
def C65 (E : V → V → Bool) (d : Nat) : Prop := ∀ (wb : World) (L : List (Nat × Obj)) (R : List Row) (v : Value) (n : Nat) (cs : List Value) (p : List Stp) (ps : Value) (a b : V) (ra rb : List Value) (w0 : World), Cxr wb w0 L (⟨35, 29, v, n, cs⟩ :: R) → PthA (F w0 L (⟨35, 29, v, n, cs⟩ :: R)) w0 ps p → RepV (F w0 L (⟨35, 29, v, n, cs⟩ :: R)) w0 a ra → RepV (F w0 L (⟨35, 29, v, n, cs⟩ :: R)) w0 b rb → okd d a → okd d b → Fine a → Fine b → Nar d a b → p.length + d ≤ 100 → d ≤ 48 → n + (btw E d p a b).length ≤ 1048576 → Ret Try.prog 65 [v, ps, .agg ra.toArray, .agg rb.toArray] w0 (BtP wb w0 L R v n cs (btw E d p a b))

set_option maxRecDepth 10000 in
set_option maxHeartbeats 6400000 in
theorem c96 (E : V → V → Bool) (d : Nat) (ih : C65 E d) (wb : World) (L : List (Nat × Obj)) (R : List Row) (v : Value) (n : Nat) (cs : List Value) (p : List Stp) (ps : Value) (a b : V) (ra rb : List Value) (w0 : World) : Cxr wb w0 L (⟨35, 29, v, n, cs⟩ :: R) → PthA (F w0 L (⟨35, 29, v, n, cs⟩ :: R)) w0 ps p → RepV (F w0 L (⟨35, 29, v, n, cs⟩ :: R)) w0 a ra → RepV (F w0 L (⟨35, 29, v, n, cs⟩ :: R)) w0 b rb → okd (d + 1) a → okd (d + 1) b → Fine a → Fine b → Nar (d + 1) a b → p.length + (d + 1) ≤ 100 → (d + 1) ≤ 48 → n + ((kepC (btw E d) p b.fields a.fields ++ remC p b.fields a.fields 0 ++ addC p a.fields b.fields (nkep b.fields a.fields))).length ≤ 1048576 → Ret Try.prog 96 [v, ps, .agg ra.toArray, .agg rb.toArray] w0 (BtP wb w0 L R v n cs (kepC (btw E d) p b.fields a.fields ++ remC p b.fields a.fields 0 ++ addC p a.fields b.fields (nkep b.fields a.fields))) := by
  intro cx hpp hva hvb hoa hob hfa1 hfb1 hnar hpd hd48 hnb
  have hO1 := id (RepV.open hva)
  obtain ⟨abs, als, afs, rfl, _, _, haf0⟩ := hO1
  have hO2 := id (RepV.open hvb)
  obtain ⟨bbs, bls, bfs, rfl, _, _, hbf0⟩ := hO2
  obtain ⟨fb, fo, hfsl, hfreps⟩ := haf0
  have hO3 := hfsl.form
  obtain ⟨fa, fc, rfl, hfa⟩ := hO3
  obtain ⟨gb, go, hgsl, hgreps⟩ := hbf0
  have hO4 := hgsl.form
  obtain ⟨ga, gc, rfl, hga⟩ := hO4
  have hafl := hfa1.self.2.2.2.2
  have hbfl := hfb1.self.2.2.2.2
  rw [List.length_append, List.length_append] at hnb
  refine ret_enter Try.func96 rfl Try.ntmps96 rfl ?_
  skip
  refine wp_seq ?_
  refine wp_region_lit ?_
  refine s_box cx rfl rfl rfl rfl rfl ?_; intro b6 w cx hb6 hw6
  refine s_box cx rfl rfl rfl rfl rfl ?_; intro b7 w cx hb7 hw7
  refine s_val rfl rfl (v_assign rfl rfl) ?_
  refine wpList_nil ?_
  refine wp_seq ?_
  refine wp_seq ?_
  refine wp_region_lit ?_
  have hz : Fz w0 L (⟨35, 29, v, n, cs⟩ :: R) w ((b7, .cells (vrow b.sc bbs bls (.slice ga b.fields.length gc)).toArray 33) :: (b6, .cells (vrow a.sc abs als (.slice fa a.fields.length fc)).toArray 33) :: L) (⟨35, 29, v, n, cs⟩ :: R) := (Fz.new hb6 hw6).trans (Fz.new hb7 hw7)
  refine s_val rfl rfl (v_fa fa33_7 rfl rfl) ?_
  refine s_val rfl rfl (v_load1 rfl rfl Try.underlying31 rfl (cx.cell 1 rfl rfl)) ?_
  refine s_val rfl rfl (v_lenSlice rfl rfl Try.underlying31) ?_
  refine s_val rfl rfl (v_move rfl rfl) ?_
  refine wpList_nil ?_
  refine wp_block ?_
  refine w_loop (fun k f w1 => ∃ (i : Nat) (x : Value) (S : List Ch) (rs : List (List Value)), k + i = a.fields.length ∧ f 0 = x ∧ f 1 = ps ∧ f 6 = .pointer (some ⟨b6, 0, none⟩) ∧ f 7 = .pointer (some ⟨b7, 0, none⟩) ∧ f 24 = .slice fa a.fields.length fc ∧ f 25 = .int .i64 (a.fields.length : Nat) ∧ f 26 = .int .i64 (i : Nat) ∧ Sho n (kepC (btw E d) p b.fields (a.fields.take i)) S ∧ LpC wb w0 L (⟨35, 29, v, n, cs⟩ :: R) ((b7, .cells (vrow b.sc bbs bls (.slice ga b.fields.length gc)).toArray 33) :: (b6, .cells (vrow a.sc abs als (.slice fa a.fields.length fc)).toArray 33) :: L) R n cs S x rs w1) (a.fields.length) ?_ ?_
  · skip
    exact ⟨0, v, [], [], by omega, rfl, rfl, rfl, rfl, rfl, rfl, rfl, (Sho.nil n).cast (by simp [kepC]), LpC.zero cx hz⟩
  intro gk2 f w hJ
  obtain ⟨i, x, S, rs, hki, hs0, hs1, hs6, hs7, hs24, hs25, hs26, hsh, cx, hz, hcf⟩ := hJ
  refine wp_seq ?_
  refine wp_region_lit ?_
  refine s_val rfl rfl (v_cmp rfl hs26 hs25 rfl) ?_
  refine wpList_nil ?_
  refine wp_seq ?_
  refine c_split rfl (fun hc27 => ?_) (fun hc27 => ?_)
  · skip
    try simp only [Bool.and_eq_true, Bool.or_eq_true, Bool.and_eq_false_iff, Bool.or_eq_false_iff, Bool.not_eq_true', Bool.not_eq_false', decide_eq_true_eq, decide_eq_false_iff_not, beq_iff_eq, beq_eq_false_iff_ne, bne_iff_ne, bne_eq_false_iff_eq, ne_eq, Classical.not_not] at hc27
    have hil : i < a.fields.length := by omega
    have hO5 := hfa (by omega)
    obtain rfl := hO5
    have hFfb := hfsl.inA (by omega)
    have hO6 := fld_at hz hfreps hil hFfb
    obtain ⟨r, hr, hrv⟩ := hO6
    have hO7 := hrv.open
    obtain ⟨ebs, els, efs, rfl, _⟩ := hO7
    have hkm : a.fields[i] ∈ a.fields := List.getElem_mem _
    have hh := hz.self
    have hb1 := kepC_le (btw E d) p b.fields a.fields (i + 1)
    rw [kepC_take (btw E d) p b.fields hil] at hb1
    have hSl := hsh.1
    refine wp_skip ?_
    refine wp_seq ?_
    refine wp_block ?_
    refine wp_seq ?_
    refine wp_region_lit ?_
    refine s_val rfl rfl (v_ia Try.underlying31 sz77 rfl hs24 hs26 (by omega) (by omega)) ?_
    refine s_val rfl rfl (v_load rfl rfl Try.underlying77 rfl sz77 hr rfl) ?_
    refine s_alloc cx z77 rfl rfl rfl ?_; intro b10 w cx hb10 hw10
    refine s_storeAllG cx 0 rfl rfl rfl rfl rfl rfl sz77 rfl (rowF_one hrv) ?_; intro w cx hg10
    replace cx := cx.set0
    replace hh := hh.trans (Fz.newSet cx hb10 hw10 hg10)
    replace hrv := (Fz.newSet cx hb10 hw10 hg10).rep hrv
    refine wpList_nil ?_
    refine wp_seq ?_
    refine wp_region_lit ?_
    refine s_val rfl rfl (v_load rfl hs7 Try.underlying33 rfl sz33 (cx.row 1 rfl) rfl) ?_
    refine s_val rfl rfl (v_fa fa77_0 rfl rfl) ?_
    refine s_val rfl rfl (v_load1 rfl rfl Try.underlying9 rfl (cx.cell 0 rfl rfl)) ?_
    have cx34 := cx
    refine s_fn cx (c80g 48 b _ a.fields[i].1 _ (deep_mono _ _ _ (deep_of_okd _ _ hob) (by omega)) (by omega) ((hz.trans hh).rep hvb).val hfb1 (by
      by_cases h7 : b.sc.kind = 7
      · exact .inl h7
      · exact .inr (List.eq_nil_of_length_eq_zero (hob.1.fields h7)))) Try.func80 rfl rfl rfl rfl rfl rfl ?_; intro q34 w cx hw34 hp34
    obtain ⟨lu, bb, rfl, hlul, hluo, hlm⟩ := hp34
    have hO8 := RepO.copied cx34 hw34 hlm
    obtain ⟨hbb, hlu⟩ := hO8
    replace hh := hh.trans (Fz.belC cx hw34)
    replace hrv := (Fz.belC cx hw34).rep hrv
    refine s_val rfl rfl (v_move rfl rfl) ?_
    refine s_val rfl rfl (v_extract rfl rfl rfl) ?_
    refine s_val rfl rfl (v_extract rfl rfl rfl) ?_
    refine s_alloc cx z33 rfl rfl rfl ?_; intro b11 w cx hb11 hw11
    refine s_storeAllG cx 0 rfl rfl rfl rfl rfl rfl (by rw [hlul]; exact sz33) (by rw [hlul]; rfl) hluo ?_; intro w cx hg11
    replace cx := cx.set0
    replace hh := hh.trans (Fz.newSet cx hb11 hw11 hg11)
    replace hrv := (Fz.newSet cx hb11 hw11 hg11).rep hrv
    replace hlu := (Fz.newSet cx hb11 hw11 hg11).repO hlu
    refine s_val rfl rfl (v_assign rfl rfl) ?_
    refine wpList_nil ?_
    refine wp_seq ?_
    refine wp_region_lit ?_
    refine s_val rfl rfl (v_move rfl rfl) ?_
    refine wpList_nil ?_
    refine c_split rfl (fun hc37 => ?_) (fun hc37 => ?_)
    · skip
      skip
      have hO9 := Option.isSome_iff_exists.1 (hbb.symm.trans hc37)
      obtain ⟨u, hu⟩ := hO9
      replace hlu := hlu u hu
      rw [hu, List.length_append] at hb1
      dsimp only at hb1
      refine w_ord cx (cx.pick2 1 0 rfl rfl rfl) mixed [(0, 38), (1, 39), (2, 40), (3, 41), (6, 44), (7, 45), (8, 46)] #[true, true, true, true, false, false, true, true, true, false, false] (by kernel_rfl) (by kernel_rfl) (by kernel_rfl) (by kernel_rfl) ?_
      refine pu_one rfl (wnt_none rfl) (fun w cx => v_move rfl hs0) ?_
      refine pu_one rfl (wnt_none rfl) (fun w cx => v_move rfl hs1) ?_
      refine pu_one rfl (wnt_none rfl) (fun w cx => v_fa fa77_0 rfl rfl) ?_
      refine pu_one rfl (wnt_none rfl) (fun w cx => v_load1 rfl rfl Try.underlying9 rfl (cx.cell 0 rfl rfl)) ?_
      refine pu_one rfl (wnt_none rfl) (fun w cx => v_fa fa77_1 rfl rfl) ?_
      refine pu_one rfl (wnt_none rfl) (fun w cx => v_load rfl rfl Try.underlying33 rfl sz33 ((cx.row 0 rfl).tail) rfl) ?_
      refine pu_one rfl (wnt_none rfl) (fun w cx => v_load rfl rfl Try.underlying33 rfl sz33 (cx.row 1 rfl) hlul) ?_
      refine pu_nil ?_; intro w cx hwD6
      replace hh := hh.trans (Fz.belC cx hwD6)
      replace hrv := (Fz.belC cx hwD6).rep hrv
      replace hlu := (Fz.belC cx hwD6).rep hlu
      refine x_one (i := 4) (by kernel_rfl) rfl ?_
      refine s_fn cx (c82 a.fields[i].1 _) Try.func82 rfl rfl rfl rfl rfl rfl ?_; intro q42 w cx hw42 hp42
      subst hp42
      replace hh := hh.trans (Fz.belC cx hw42)
      replace hrv := (Fz.belC cx hw42).rep hrv
      replace hlu := (Fz.belC cx hw42).rep hlu
      refine x_next ⟨.inl (cx.pick2 1 0 rfl rfl rfl), ?_⟩
      refine x_one (i := 5) (by kernel_rfl) rfl ?_
      have cx43 := cx
      refine s_fn cx (c81 (keyS a.fields[i].1) _ p _ _ F.lt ((hz.trans hh).pth hpp) (by omega)) Try.func81 rfl rfl rfl rfl rfl rfl ?_; intro q43 w cx hw43 hp43
      replace hp43 := hp43.fr cx43 hw43.size
      replace hh := hh.trans (Fz.belC cx hw43)
      replace hrv := (Fz.belC cx hw43).rep hrv
      replace hlu := (Fz.belC cx hw43).rep hlu
      refine x_next ⟨.inl (cx.pick2 1 0 rfl rfl rfl), ?_⟩
      refine x_one (i := 9) (by kernel_rfl) rfl ?_
      refine s_callR rfl rfl (runs_fn Try.func65 rfl rfl rfl rfl) (ih wb _ _ x _ _ (p ++ [keyS a.fields[i].1]) _ a.fields[i].2 u _ _ _ cx hp43 hrv hlu (hoa.2.2.2 _ hkm) (hob.2.2.2 _ (hasF_mem hu)) (hfa1.field hkm).2 (hfb1.field (hasF_mem hu)).2 (hnar.field hkm hu) (by rw [List.length_append, List.length_singleton]; omega) (by omega) (by omega)) ?_; intro q47 w hp47
      obtain ⟨S2, rs2, hsh2, cx, hz2, hcf2⟩ := hp47
      replace hh := hh.trans hz2
      refine x_next ⟨.inr (by kernel_rfl), ?_⟩
      refine x_one (i := 10) (by kernel_rfl) rfl ?_
      refine s_val rfl rfl (v_assign rfl rfl) ?_
      refine x_next ⟨.inr (by kernel_rfl), ?_⟩
      refine x_done (by kernel_rfl) ?_
      refine wp_region_lit ?_
      refine s_val rfl rfl (v_add rfl hs26 rfl (by omega) (by omega)) ?_
      refine s_val rfl rfl (v_move rfl rfl) ?_
      refine wpList_nil ?_
      refine ⟨gk2 - 1, _, by omega, rfl, i + 1, q47, S ++ S2, rs ++ rs2, by omega, rfl, hs1, hs6, hs7, hs24, hs25, rfl, (hsh.append hsh2).cast (by rw [kepC_take _ _ _ hil, hu]), LpC.of ?_ ?_ cx.tl.tl (hz.trans (hh.trans (Fz.tl.trans Fz.tl))) (Rws.append ((hh.trans (Fz.tl.trans Fz.tl)).chs hcf) ((Fz.tl.trans Fz.tl).chs hcf2))⟩
      · simp only [List.length_append, List.length_singleton]; omega
      · simp
    · skip
      skip
      have hu : hasF a.fields[i].1 b.fields = none := by
        cases hx : hasF a.fields[i].1 b.fields with
        | none => rfl
        | some u => rw [hx] at hbb; rw [hbb] at hc37; cases hc37
      refine wp_skip ?_
      refine wp_region_lit ?_
      refine s_val rfl rfl (v_add rfl hs26 rfl (by omega) (by omega)) ?_
      refine s_val rfl rfl (v_move rfl rfl) ?_
      refine wpList_nil ?_
      refine ⟨gk2 - 1, _, by omega, rfl, i + 1, x, S, rs, by omega, hs0, hs1, hs6, hs7, hs24, hs25, rfl, hsh.cast (by rw [kepC_take _ _ _ hil, hu]; simp), LpC.of rfl rfl cx.tl.tl (hz.trans (hh.trans (Fz.tl.trans Fz.tl))) ((hh.trans (Fz.tl.trans Fz.tl)).chs hcf)⟩
  · skip
    try simp only [Bool.and_eq_true, Bool.or_eq_true, Bool.and_eq_false_iff, Bool.or_eq_false_iff, Bool.not_eq_true', Bool.not_eq_false', decide_eq_true_eq, decide_eq_false_iff_not, beq_iff_eq, beq_eq_false_iff_ne, bne_iff_ne, bne_eq_false_iff_eq, ne_eq, Classical.not_not] at hc27
    refine wp_exit ?_
    refine wp_seq ?_
    refine wp_region_lit ?_
    refine s_val rfl rfl (v_assign rfl rfl) ?_
    refine wpList_nil ?_
    refine wp_seq ?_
    refine wp_seq ?_
    refine wp_region_lit ?_
    refine s_val rfl rfl (v_fa fa33_7 rfl hs6) ?_
    refine s_val rfl rfl (v_load1 rfl rfl Try.underlying31 rfl (cx.cell 1 rfl rfl)) ?_
    refine s_val rfl rfl (v_lenSlice rfl rfl Try.underlying31) ?_
    refine s_val rfl rfl (v_move rfl rfl) ?_
    refine wpList_nil ?_
    refine wp_block ?_
    have hia : i = a.fields.length := by omega
    subst hia
    rw [List.take_of_length_le (Nat.le_refl _)] at hsh
    refine w_loop (fun k f w1 => ∃ (i : Nat) (x : Value) (S : List Ch) (rs : List (List Value)), k + i = a.fields.length ∧ f 0 = x ∧ f 1 = ps ∧ f 6 = .pointer (some ⟨b6, 0, none⟩) ∧ f 7 = .pointer (some ⟨b7, 0, none⟩) ∧ f 13 = .int .i64 ((i - nkep b.fields (a.fields.take i) : Nat) : Int) ∧ f 50 = .slice fa a.fields.length fc ∧ f 51 = .int .i64 (a.fields.length : Nat) ∧ f 52 = .int .i64 (i : Nat) ∧ Sho n (kepC (btw E d) p b.fields a.fields ++ remC p b.fields (a.fields.take i) 0) S ∧ LpC wb w0 L (⟨35, 29, v, n, cs⟩ :: R) ((b7, .cells (vrow b.sc bbs bls (.slice ga b.fields.length gc)).toArray 33) :: (b6, .cells (vrow a.sc abs als (.slice fa a.fields.length fc)).toArray 33) :: L) R n cs S x rs w1) (a.fields.length) ?_ ?_
    · skip
      exact ⟨0, x, S, rs, by omega, hs0, hs1, hs6, hs7, rfl, rfl, rfl, rfl, hsh.cast (by simp [remC]), LpC.of rfl rfl cx hz hcf⟩
    intro gk10 f w hJ
    obtain ⟨i, x, S, rs, hki, hs0, hs1, hs6, hs7, hs13, hs50, hs51, hs52, hsh, cx, hz, hcf⟩ := hJ
    refine wp_seq ?_
    refine wp_region_lit ?_
    refine s_val rfl rfl (v_cmp rfl hs52 hs51 rfl) ?_
    refine wpList_nil ?_
    refine wp_seq ?_
    refine c_split rfl (fun hc53 => ?_) (fun hc53 => ?_)
    · skip
      try simp only [Bool.and_eq_true, Bool.or_eq_true, Bool.and_eq_false_iff, Bool.or_eq_false_iff, Bool.not_eq_true', Bool.not_eq_false', decide_eq_true_eq, decide_eq_false_iff_not, beq_iff_eq, beq_eq_false_iff_ne, bne_iff_ne, bne_eq_false_iff_eq, ne_eq, Classical.not_not] at hc53
      have hil : i < a.fields.length := by omega
      have hO10 := hfa (by omega)
      obtain rfl := hO10
      have hFfb := hfsl.inA (by omega)
      have hO11 := fld_at hz hfreps hil hFfb
      obtain ⟨r, hr, hrv⟩ := hO11
      have hO12 := hrv.open
      obtain ⟨ebs, els, efs, rfl, _⟩ := hO12
      have hkm : a.fields[i] ∈ a.fields := List.getElem_mem _
      have hh := hz.self
      have hb1 := remC_le p b.fields a.fields (i + 1)
      rw [remC_take p b.fields hil] at hb1
      have hnk := nkep_take b.fields hil
      have hnl := nkep_le b.fields (a.fields.take i)
      rw [List.length_take] at hnl
      have hSl := hsh.1
      rw [List.length_append] at hSl
      refine wp_skip ?_
      refine wp_seq ?_
      refine wp_block ?_
      refine wp_seq ?_
      refine wp_region_lit ?_
      refine s_val rfl rfl (v_move rfl hs52) ?_
      refine s_val rfl rfl (v_ia Try.underlying31 sz77 rfl hs50 hs52 (by omega) (by omega)) ?_
      refine s_val rfl rfl (v_load rfl rfl Try.underlying77 rfl sz77 hr rfl) ?_
      refine s_alloc cx z77 rfl rfl rfl ?_; intro b15 w cx hb15 hw15
      refine s_val rfl rfl (v_assign rfl rfl) ?_
      refine s_storeAllG cx 0 rfl rfl rfl rfl rfl rfl sz77 rfl (rowF_one hrv) ?_; intro w cx hg15
      replace cx := cx.set0
      replace hh := hh.trans (Fz.newSet cx hb15 hw15 hg15)
      replace hrv := (Fz.newSet cx hb15 hw15 hg15).rep hrv
      refine wpList_nil ?_
      refine wp_seq ?_
      refine wp_region_lit ?_
      refine s_val rfl rfl (v_load rfl hs7 Try.underlying33 rfl sz33 (cx.row 1 rfl) rfl) ?_
      refine s_val rfl rfl (v_fa fa77_0 rfl rfl) ?_
      refine s_val rfl rfl (v_load1 rfl rfl Try.underlying9 rfl (cx.cell 0 rfl rfl)) ?_
      have cx61 := cx
      refine s_fn cx (c80g 48 b _ a.fields[i].1 _ (deep_mono _ _ _ (deep_of_okd _ _ hob) (by omega)) (by omega) ((hz.trans hh).rep hvb).val hfb1 (by
        by_cases h7 : b.sc.kind = 7
        · exact .inl h7
        · exact .inr (List.eq_nil_of_length_eq_zero (hob.1.fields h7)))) Try.func80 rfl rfl rfl rfl rfl rfl ?_; intro q61 w cx hw61 hp61
      obtain ⟨lu, bb, rfl, hlul, hluo, hlm⟩ := hp61
      have hO13 := RepO.copied cx61 hw61 hlm
      obtain ⟨hbb, hlu⟩ := hO13
      replace hh := hh.trans (Fz.belC cx hw61)
      replace hrv := (Fz.belC cx hw61).rep hrv
      refine s_val rfl rfl (v_move rfl rfl) ?_
      refine s_val rfl rfl (v_extract rfl rfl rfl) ?_
      refine s_val rfl rfl (v_extract rfl rfl rfl) ?_
      refine s_alloc cx z33 rfl rfl rfl ?_; intro b16 w cx hb16 hw16
      refine s_storeAllG cx 0 rfl rfl rfl rfl rfl rfl (by rw [hlul]; exact sz33) (by rw [hlul]; rfl) hluo ?_; intro w cx hg16
      replace cx := cx.set0
      replace hh := hh.trans (Fz.newSet cx hb16 hw16 hg16)
      replace hrv := (Fz.newSet cx hb16 hw16 hg16).rep hrv
      replace hlu := (Fz.newSet cx hb16 hw16 hg16).repO hlu
      refine s_val rfl rfl (v_assign rfl rfl) ?_
      refine wpList_nil ?_
      refine wp_seq ?_
      refine wp_region_lit ?_
      refine s_val rfl rfl (v_move rfl rfl) ?_
      refine s_val rfl rfl (v_not rfl rfl) ?_
      refine wpList_nil ?_
      refine c_split rfl (fun hc65 => ?_) (fun hc65 => ?_)
      · skip
        skip
        have hc66 : (hasF a.fields[i].1 b.fields).isSome = false := by rw [← hbb]; simpa using hc65
        rw [if_neg (by rw [hc66]; exact Bool.false_ne_true), List.length_append, List.length_singleton] at hb1
        rw [if_neg (by rw [hc66]; exact Bool.false_ne_true)] at hnk
        refine wp_seq ?_
        refine w_ord cx (cx.pick1 1 rfl) mixed [(0, 66), (1, 67), (2, 68), (3, 69), (6, 72), (7, 73), (8, 74), (9, 75), (10, 76)] #[true, true, true, true, false, false, true, true, true, true, true, false, false, false, false, false] (by kernel_rfl) (by kernel_rfl) (by kernel_rfl) (by kernel_rfl) ?_
        refine pu_one rfl (wnt_none rfl) (fun w cx => v_move rfl hs0) ?_
        refine pu_one rfl (wnt_none rfl) (fun w cx => v_move rfl hs1) ?_
        refine pu_one rfl (wnt_none rfl) (fun w cx => v_fa fa77_0 rfl rfl) ?_
        refine pu_one rfl (wnt_none rfl) (fun w cx => v_load1 rfl rfl Try.underlying9 rfl (cx.cell 0 rfl rfl)) ?_
        refine pu_one rfl (wnt_none rfl) (fun w cx => v_move rfl rfl) ?_
        refine pu_one rfl (wnt_none rfl) (fun w cx => v_move rfl hs13) ?_
        refine pu_one rfl (wnt_none rfl) (fun w cx => v_subQ rfl rfl rfl (r := ((nkep b.fields (a.fields.take i) : Nat) : Int)) (by omega) (by omega) (by omega)) ?_
        refine pu_one rfl (wnt_none rfl) (fun w cx => v_fa fa77_1 rfl rfl) ?_
        refine pu_one rfl (wnt_none rfl) (fun w cx => v_load rfl rfl Try.underlying33 rfl sz33 ((cx.row 0 rfl).tail) rfl) ?_
        refine pu_nil ?_; intro w cx hwD14
        replace hh := hh.trans (Fz.belC cx hwD14)
        replace hrv := (Fz.belC cx hwD14).rep hrv
        refine x_one (i := 4) (by kernel_rfl) rfl ?_
        refine s_fn cx (c82 a.fields[i].1 _) Try.func82 rfl rfl rfl rfl rfl rfl ?_; intro q70 w cx hw70 hp70
        subst hp70
        replace hh := hh.trans (Fz.belC cx hw70)
        replace hrv := (Fz.belC cx hw70).rep hrv
        try replace hr77 := (Fz.belC cx hw70).rep hr77
        refine x_next ⟨.inl (cx.pick1 1 rfl), ?_⟩
        refine x_one (i := 5) (by kernel_rfl) rfl ?_
        have cx71 := cx
        refine s_fn cx (c81 (keyS a.fields[i].1) _ p _ _ F.lt ((hz.trans hh).pth hpp) (by omega)) Try.func81 rfl rfl rfl rfl rfl rfl ?_; intro q71 w cx hw71 hp71
        replace hp71 := hp71.fr cx71 hw71.size
        replace hh := hh.trans (Fz.belC cx hw71)
        replace hrv := (Fz.belC cx hw71).rep hrv
        try replace hr77 := (Fz.belC cx hw71).rep hr77
        refine x_next ⟨.inl (cx.pick1 1 rfl), ?_⟩
        refine x_one (i := 11) (by kernel_rfl) rfl ?_
        have cx77 := cx
        refine s_fn cx (c60 48 (a.fields[i].2) _ _ (deep_mono _ _ _ (deep_of_okd _ _ (hoa.2.2.2 _ hkm)) (by omega)) (by omega) hrv.val ((hfa1.field hkm).2)) Try.func60 rfl rfl rfl rfl rfl rfl ?_; intro q77 w cx hw77 hp77
        have hO14 := Made.fr hp77 cx77 hw77
        obtain ⟨cb77, cl77, cf77, rfl, hr77⟩ := hO14
        replace hh := hh.trans (Fz.belC cx hw77)
        replace hrv := (Fz.belC cx hw77).rep hrv
        try replace hp71 := (Fz.belC cx hw77).pth hp71
        refine x_next ⟨.inl (cx.pick1 1 rfl), ?_⟩
        refine x_one (i := 12) (by kernel_rfl) rfl ?_
        have hO15 := hp71.sl
        obtain ⟨pa, pc, rfl⟩ := hO15
        refine s_val rfl rfl (v_build (bd35r2 _ _ _ _ _ _ _ _) rfl rfl) ?_
        refine x_next ⟨.inl (cx.pick1 1 rfl), ?_⟩
        refine x_one (i := 13) (by kernel_rfl) rfl ?_
        refine s_bsl1 cx Try.underlying22 sz35 z35 rfl rfl rfl rfl rfl rfl rfl rfl ?_; intro b79 w cx hb79 hw79
        have hr79 : RowAt w b79 0 (.int .i64 3 :: .slice pa (p ++ [keyS a.fields[i].1]).length pc :: .int .i64 (nkep b.fields (a.fields.take i) : Nat) :: (vrow a.fields[i].2.sc cb77 cl77 cf77 ++ vrow (zk 0) (.slice none 0 0) (.slice none 0 0) (.slice none 0 0))) := cx.row 0 rfl
        replace cx := cx.tl
        replace hh := hh.trans (Fz.belC cx hw79)
        replace hr77 := (Fz.belC cx hw79).rep hr77
        replace hp71 := (Fz.belC cx hw79).pth hp71
        refine x_next ⟨.inl (cx.pick1 1 rfl), ?_⟩
        refine x_one (i := 14) (by kernel_rfl) rfl ?_
        have hcn : chA (F w _ _) w (⟨3, p ++ [keyS a.fields[i].1], (nkep b.fields (a.fields.take i) : Nat), a.fields[i].2, nulV⟩ : Ch) (.int .i64 3 :: .slice pa (p ++ [keyS a.fields[i].1]).length pc :: .int .i64 (nkep b.fields (a.fields.take i) : Nat) :: (vrow a.fields[i].2.sc cb77 cl77 cf77 ++ vrow (zk 0) (.slice none 0 0) (.slice none 0 0) (.slice none 0 0))) := ⟨_, _, _, rfl, hp71, hr77, rep_nul⟩
        refine s_appendG (m := 1) cx ei35 Try.underlying22 rfl rfl rfl rfl rfl hr79 rfl (chA.one _ _ hcn) (by omega) ?_; intro v80 w cx hgr80 hnw80
        replace hh := hh.trans (Fz.appC cx hgr80 hnw80)
        replace hcn := (Fz.appC cx hgr80 hnw80).ch1 hcn
        refine x_next ⟨.inr (by kernel_rfl), ?_⟩
        refine x_one (i := 15) (by kernel_rfl) rfl ?_
        refine s_val rfl rfl (v_assign rfl rfl) ?_
        refine x_next ⟨.inr (by kernel_rfl), ?_⟩
        refine x_done (by kernel_rfl) ?_
        refine wp_region_lit ?_
        refine s_val rfl rfl (v_move rfl hs13) ?_
        refine s_val rfl rfl (v_addQ rfl rfl rfl (r := ((i + 1 - nkep b.fields (a.fields.take (i + 1)) : Nat) : Int)) (by omega) (by omega) (by omega)) ?_
        refine s_val rfl rfl (v_assign rfl rfl) ?_
        refine wpList_nil ?_
        refine wp_region_lit ?_
        refine s_val rfl rfl (v_add rfl hs52 rfl (by omega) (by omega)) ?_
        refine s_val rfl rfl (v_move rfl rfl) ?_
        refine wpList_nil ?_
        refine ⟨gk10 - 1, _, by omega, rfl, i + 1, v80, S ++ [⟨3, p ++ [keyS a.fields[i].1], (nkep b.fields (a.fields.take i) : Nat), a.fields[i].2, nulV⟩], rs ++ [_], by omega, rfl, hs1, hs6, hs7, rfl, hs50, hs51, rfl, (hsh.snoc _).cast (by rw [remC_take _ _ hil, if_neg (by rw [hc66]; exact Bool.false_ne_true), List.append_assoc]), LpC.of ?_ ?_ cx.tl.tl (hz.trans (hh.trans (Fz.tl.trans Fz.tl))) (Rws.append ((hh.trans (Fz.tl.trans Fz.tl)).chs hcf) ⟨(Fz.tl.trans Fz.tl).ch1 hcn, trivial⟩)⟩
        · simp only [List.length_append, List.length_singleton]; omega
        · simp
      · skip
        skip
        have hc66 : (hasF a.fields[i].1 b.fields).isSome = true := by rw [← hbb]; simpa using hc65
        rw [if_pos hc66] at hb1 hnk
        refine wp_skip ?_
        refine wp_region_lit ?_
        refine s_val rfl rfl (v_add rfl hs52 rfl (by omega) (by omega)) ?_
        refine s_val rfl rfl (v_move rfl rfl) ?_
        refine wpList_nil ?_
        refine ⟨gk10 - 1, _, by omega, rfl, i + 1, x, S, rs, by omega, hs0, hs1, hs6, hs7, (hs13.trans (by congr 2; omega)), hs50, hs51, rfl, hsh.cast (by rw [remC_take _ _ hil, if_pos hc66, List.append_nil]), LpC.of rfl rfl cx.tl.tl (hz.trans (hh.trans (Fz.tl.trans Fz.tl))) ((hh.trans (Fz.tl.trans Fz.tl)).chs hcf)⟩
    · skip
      try simp only [Bool.and_eq_true, Bool.or_eq_true, Bool.and_eq_false_iff, Bool.or_eq_false_iff, Bool.not_eq_true', Bool.not_eq_false', decide_eq_true_eq, decide_eq_false_iff_not, beq_iff_eq, beq_eq_false_iff_ne, bne_iff_ne, bne_eq_false_iff_eq, ne_eq, Classical.not_not] at hc53
      refine wp_exit ?_
      refine wp_seq ?_
      refine wp_region_lit ?_
      have hnl2 := nkep_le b.fields a.fields
      have hia : i = a.fields.length := by omega
      subst hia
      rw [List.take_of_length_le (Nat.le_refl _)] at hsh hs13
      refine s_val rfl rfl (v_fa fa33_7 rfl hs6) ?_
      refine s_val rfl rfl (v_load1 rfl rfl Try.underlying31 rfl (cx.cell 1 rfl rfl)) ?_
      refine s_val rfl rfl (v_lenSlice rfl rfl Try.underlying31) ?_
      refine s_val rfl rfl (v_move rfl hs13) ?_
      refine s_val rfl rfl (v_subQ rfl rfl rfl (r := ((nkep b.fields a.fields : Nat) : Int)) (by omega) (by omega) (by omega)) ?_
      refine s_val rfl rfl (v_assign rfl rfl) ?_
      refine wpList_nil ?_
      refine wp_seq ?_
      refine wp_seq ?_
      refine wp_region_lit ?_
      refine s_val rfl rfl (v_fa fa33_7 rfl hs7) ?_
      refine s_val rfl rfl (v_load1 rfl rfl Try.underlying31 rfl (cx.cell 0 rfl rfl)) ?_
      refine s_val rfl rfl (v_lenSlice rfl rfl Try.underlying31) ?_
      refine s_val rfl rfl (v_move rfl rfl) ?_
      refine wpList_nil ?_
      refine wp_block ?_
      refine w_loop (fun k f w1 => ∃ (i : Nat) (x : Value) (S : List Ch) (rs : List (List Value)), k + i = b.fields.length ∧ f 0 = x ∧ f 1 = ps ∧ f 6 = .pointer (some ⟨b6, 0, none⟩) ∧ f 7 = .pointer (some ⟨b7, 0, none⟩) ∧ f 18 = .int .i64 ((nkep b.fields a.fields + (i - nkep a.fields (b.fields.take i)) : Nat) : Int) ∧ f 90 = .slice ga b.fields.length gc ∧ f 91 = .int .i64 (b.fields.length : Nat) ∧ f 92 = .int .i64 (i : Nat) ∧ Sho n (kepC (btw E d) p b.fields a.fields ++ remC p b.fields a.fields 0 ++ addC p a.fields (b.fields.take i) (nkep b.fields a.fields)) S ∧ LpC wb w0 L (⟨35, 29, v, n, cs⟩ :: R) ((b7, .cells (vrow b.sc bbs bls (.slice ga b.fields.length gc)).toArray 33) :: (b6, .cells (vrow a.sc abs als (.slice fa a.fields.length fc)).toArray 33) :: L) R n cs S x rs w1) (b.fields.length) ?_ ?_
      · skip
        exact ⟨0, x, S, rs, by omega, hs0, hs1, hs6, hs7, rfl, rfl, rfl, rfl, hsh.cast (by simp [addC]), LpC.of rfl rfl cx hz hcf⟩
      intro gk19 f w hJ
      obtain ⟨i, x, S, rs, hki, hs0, hs1, hs6, hs7, hs18, hs90, hs91, hs92, hsh, cx, hz, hcf⟩ := hJ
      refine wp_seq ?_
      refine wp_region_lit ?_
      refine s_val rfl rfl (v_cmp rfl hs92 hs91 rfl) ?_
      refine wpList_nil ?_
      refine wp_seq ?_
      refine c_split rfl (fun hc93 => ?_) (fun hc93 => ?_)
      · skip
        try simp only [Bool.and_eq_true, Bool.or_eq_true, Bool.and_eq_false_iff, Bool.or_eq_false_iff, Bool.not_eq_true', Bool.not_eq_false', decide_eq_true_eq, decide_eq_false_iff_not, beq_iff_eq, beq_eq_false_iff_ne, bne_iff_ne, bne_eq_false_iff_eq, ne_eq, Classical.not_not] at hc93
        have hil : i < b.fields.length := by omega
        have hO16 := hga (by omega)
        obtain rfl := hO16
        have hFfb := hgsl.inA (by omega)
        have hO17 := fld_at hz hgreps hil hFfb
        obtain ⟨r, hr, hrv⟩ := hO17
        have hO18 := hrv.open
        obtain ⟨ebs, els, efs, rfl, _⟩ := hO18
        have hkm : b.fields[i] ∈ b.fields := List.getElem_mem _
        have hh := hz.self
        have hb1 := addC_le p a.fields (nkep b.fields a.fields) b.fields (i + 1)
        rw [addC_take p a.fields _ hil] at hb1
        have hnk := nkep_take a.fields hil
        have hnl := nkep_le a.fields (b.fields.take i)
        rw [List.length_take] at hnl
        have hnl2 := nkep_le b.fields a.fields
        have hSl := hsh.1
        rw [List.length_append, List.length_append] at hSl
        refine wp_skip ?_
        refine wp_seq ?_
        refine wp_block ?_
        refine wp_seq ?_
        refine wp_region_lit ?_
        refine s_val rfl rfl (v_ia Try.underlying31 sz77 rfl hs90 hs92 (by omega) (by omega)) ?_
        refine s_val rfl rfl (v_load rfl rfl Try.underlying77 rfl sz77 hr rfl) ?_
        refine s_alloc cx z77 rfl rfl rfl ?_; intro b20 w cx hb20 hw20
        refine s_storeAllG cx 0 rfl rfl rfl rfl rfl rfl sz77 rfl (rowF_one hrv) ?_; intro w cx hg20
        replace cx := cx.set0
        replace hh := hh.trans (Fz.newSet cx hb20 hw20 hg20)
        replace hrv := (Fz.newSet cx hb20 hw20 hg20).rep hrv
        refine wpList_nil ?_
        refine wp_seq ?_
        refine wp_region_lit ?_
        refine s_val rfl rfl (v_load rfl hs6 Try.underlying33 rfl sz33 (cx.row 2 rfl) rfl) ?_
        refine s_val rfl rfl (v_fa fa77_0 rfl rfl) ?_
        refine s_val rfl rfl (v_load1 rfl rfl Try.underlying9 rfl (cx.cell 0 rfl rfl)) ?_
        have cx100 := cx
        refine s_fn cx (c80g 48 a _ b.fields[i].1 _ (deep_mono _ _ _ (deep_of_okd _ _ hoa) (by omega)) (by omega) ((hz.trans hh).rep hva).val hfa1 (by
          by_cases h7 : a.sc.kind = 7
          · exact .inl h7
          · exact .inr (List.eq_nil_of_length_eq_zero (hoa.1.fields h7)))) Try.func80 rfl rfl rfl rfl rfl rfl ?_; intro q100 w cx hw100 hp100
        obtain ⟨lu, bb, rfl, hlul, hluo, hlm⟩ := hp100
        have hO19 := RepO.copied cx100 hw100 hlm
        obtain ⟨hbb, hlu⟩ := hO19
        replace hh := hh.trans (Fz.belC cx hw100)
        replace hrv := (Fz.belC cx hw100).rep hrv
        refine s_val rfl rfl (v_move rfl rfl) ?_
        refine s_val rfl rfl (v_extract rfl rfl rfl) ?_
        refine s_val rfl rfl (v_extract rfl rfl rfl) ?_
        refine s_alloc cx z33 rfl rfl rfl ?_; intro b21 w cx hb21 hw21
        refine s_storeAllG cx 0 rfl rfl rfl rfl rfl rfl (by rw [hlul]; exact sz33) (by rw [hlul]; rfl) hluo ?_; intro w cx hg21
        replace cx := cx.set0
        replace hh := hh.trans (Fz.newSet cx hb21 hw21 hg21)
        replace hrv := (Fz.newSet cx hb21 hw21 hg21).rep hrv
        replace hlu := (Fz.newSet cx hb21 hw21 hg21).repO hlu
        refine s_val rfl rfl (v_assign rfl rfl) ?_
        refine wpList_nil ?_
        refine wp_seq ?_
        refine wp_region_lit ?_
        refine s_val rfl rfl (v_move rfl rfl) ?_
        refine s_val rfl rfl (v_not rfl rfl) ?_
        refine wpList_nil ?_
        refine c_split rfl (fun hc104 => ?_) (fun hc104 => ?_)
        · skip
          skip
          have hc105 : (hasF b.fields[i].1 a.fields).isSome = false := by rw [← hbb]; simpa using hc104
          rw [if_neg (by rw [hc105]; exact Bool.false_ne_true), List.length_append, List.length_singleton] at hb1
          rw [if_neg (by rw [hc105]; exact Bool.false_ne_true)] at hnk
          refine wp_seq ?_
          refine w_ord cx (cx.pick1 1 rfl) mixed [(0, 105), (1, 106), (2, 107), (3, 108), (6, 111), (7, 112), (8, 113)] #[true, true, true, true, false, false, true, true, true, false, false, false, false, false] (by kernel_rfl) (by kernel_rfl) (by kernel_rfl) (by kernel_rfl) ?_
          refine pu_one rfl (wnt_none rfl) (fun w cx => v_move rfl hs0) ?_
          refine pu_one rfl (wnt_none rfl) (fun w cx => v_move rfl hs1) ?_
          refine pu_one rfl (wnt_none rfl) (fun w cx => v_fa fa77_0 rfl rfl) ?_
          refine pu_one rfl (wnt_none rfl) (fun w cx => v_load1 rfl rfl Try.underlying9 rfl (cx.cell 0 rfl rfl)) ?_
          refine pu_one rfl (wnt_none rfl) (fun w cx => v_move rfl hs18) ?_
          refine pu_one rfl (wnt_none rfl) (fun w cx => v_fa fa77_1 rfl rfl) ?_
          refine pu_one rfl (wnt_none rfl) (fun w cx => v_load rfl rfl Try.underlying33 rfl sz33 ((cx.row 0 rfl).tail) rfl) ?_
          refine pu_nil ?_; intro w cx hwD23
          replace hh := hh.trans (Fz.belC cx hwD23)
          replace hrv := (Fz.belC cx hwD23).rep hrv
          refine x_one (i := 4) (by kernel_rfl) rfl ?_
          refine s_fn cx (c82 b.fields[i].1 _) Try.func82 rfl rfl rfl rfl rfl rfl ?_; intro q109 w cx hw109 hp109
          subst hp109
          replace hh := hh.trans (Fz.belC cx hw109)
          replace hrv := (Fz.belC cx hw109).rep hrv
          try replace hr114 := (Fz.belC cx hw109).rep hr114
          refine x_next ⟨.inl (cx.pick1 1 rfl), ?_⟩
          refine x_one (i := 5) (by kernel_rfl) rfl ?_
          have cx110 := cx
          refine s_fn cx (c81 (keyS b.fields[i].1) _ p _ _ F.lt ((hz.trans hh).pth hpp) (by omega)) Try.func81 rfl rfl rfl rfl rfl rfl ?_; intro q110 w cx hw110 hp110
          replace hp110 := hp110.fr cx110 hw110.size
          replace hh := hh.trans (Fz.belC cx hw110)
          replace hrv := (Fz.belC cx hw110).rep hrv
          try replace hr114 := (Fz.belC cx hw110).rep hr114
          refine x_next ⟨.inl (cx.pick1 1 rfl), ?_⟩
          refine x_one (i := 9) (by kernel_rfl) rfl ?_
          have cx114 := cx
          refine s_fn cx (c60 48 (b.fields[i].2) _ _ (deep_mono _ _ _ (deep_of_okd _ _ (hob.2.2.2 _ hkm)) (by omega)) (by omega) hrv.val ((hfb1.field hkm).2)) Try.func60 rfl rfl rfl rfl rfl rfl ?_; intro q114 w cx hw114 hp114
          have hO20 := Made.fr hp114 cx114 hw114
          obtain ⟨cb114, cl114, cf114, rfl, hr114⟩ := hO20
          replace hh := hh.trans (Fz.belC cx hw114)
          replace hrv := (Fz.belC cx hw114).rep hrv
          try replace hp110 := (Fz.belC cx hw114).pth hp110
          refine x_next ⟨.inl (cx.pick1 1 rfl), ?_⟩
          refine x_one (i := 10) (by kernel_rfl) rfl ?_
          have hO21 := hp110.sl
          obtain ⟨pa, pc, rfl⟩ := hO21
          refine s_val rfl rfl (v_build (bd35a2 _ _ _ _ _ _ _ _) rfl rfl) ?_
          refine x_next ⟨.inl (cx.pick1 1 rfl), ?_⟩
          refine x_one (i := 11) (by kernel_rfl) rfl ?_
          refine s_bsl1 cx Try.underlying22 sz35 z35 rfl rfl rfl rfl rfl rfl rfl rfl ?_; intro b116 w cx hb116 hw116
          have hr116 : RowAt w b116 0 (.int .i64 2 :: .slice pa (p ++ [keyS b.fields[i].1]).length pc :: .int .i64 ((nkep b.fields a.fields + (i - nkep a.fields (b.fields.take i)) : Nat) : Int) :: (vrow (zk 0) (.slice none 0 0) (.slice none 0 0) (.slice none 0 0) ++ vrow b.fields[i].2.sc cb114 cl114 cf114)) := cx.row 0 rfl
          replace cx := cx.tl
          replace hh := hh.trans (Fz.belC cx hw116)
          replace hr114 := (Fz.belC cx hw116).rep hr114
          replace hp110 := (Fz.belC cx hw116).pth hp110
          refine x_next ⟨.inl (cx.pick1 1 rfl), ?_⟩
          refine x_one (i := 12) (by kernel_rfl) rfl ?_
          have hcn : chA (F w _ _) w (⟨2, p ++ [keyS b.fields[i].1], ((nkep b.fields a.fields + (i - nkep a.fields (b.fields.take i)) : Nat) : Int), nulV, b.fields[i].2⟩ : Ch) (.int .i64 2 :: .slice pa (p ++ [keyS b.fields[i].1]).length pc :: .int .i64 ((nkep b.fields a.fields + (i - nkep a.fields (b.fields.take i)) : Nat) : Int) :: (vrow (zk 0) (.slice none 0 0) (.slice none 0 0) (.slice none 0 0) ++ vrow b.fields[i].2.sc cb114 cl114 cf114)) := ⟨_, _, _, rfl, hp110, rep_nul, hr114⟩
          refine s_appendG (m := 1) cx ei35 Try.underlying22 rfl rfl rfl rfl rfl hr116 rfl (chA.one _ _ hcn) (by omega) ?_; intro v117 w cx hgr117 hnw117
          replace hh := hh.trans (Fz.appC cx hgr117 hnw117)
          replace hcn := (Fz.appC cx hgr117 hnw117).ch1 hcn
          refine x_next ⟨.inr (by kernel_rfl), ?_⟩
          refine x_one (i := 13) (by kernel_rfl) rfl ?_
          refine s_val rfl rfl (v_assign rfl rfl) ?_
          refine x_next ⟨.inr (by kernel_rfl), ?_⟩
          refine x_done (by kernel_rfl) ?_
          refine wp_region_lit ?_
          refine s_val rfl rfl (v_move rfl hs18) ?_
          refine s_val rfl rfl (v_addQ rfl rfl rfl (r := ((nkep b.fields a.fields + (i + 1 - nkep a.fields (b.fields.take (i + 1))) : Nat) : Int)) (by omega) (by omega) (by omega)) ?_
          refine s_val rfl rfl (v_assign rfl rfl) ?_
          refine wpList_nil ?_
          refine wp_region_lit ?_
          refine s_val rfl rfl (v_add rfl hs92 rfl (by omega) (by omega)) ?_
          refine s_val rfl rfl (v_move rfl rfl) ?_
          refine wpList_nil ?_
          refine ⟨gk19 - 1, _, by omega, rfl, i + 1, v117, S ++ [⟨2, p ++ [keyS b.fields[i].1], ((nkep b.fields a.fields + (i - nkep a.fields (b.fields.take i)) : Nat) : Int), nulV, b.fields[i].2⟩], rs ++ [_], by omega, rfl, hs1, hs6, hs7, rfl, hs90, hs91, rfl, (hsh.snoc _).cast (by rw [addC_take _ _ _ hil, if_neg (by rw [hc105]; exact Bool.false_ne_true), List.append_assoc]), LpC.of ?_ ?_ cx.tl.tl (hz.trans (hh.trans (Fz.tl.trans Fz.tl))) (Rws.append ((hh.trans (Fz.tl.trans Fz.tl)).chs hcf) ⟨(Fz.tl.trans Fz.tl).ch1 hcn, trivial⟩)⟩
          · simp only [List.length_append, List.length_singleton]; omega
          · simp
        · skip
          skip
          have hc105 : (hasF b.fields[i].1 a.fields).isSome = true := by rw [← hbb]; simpa using hc104
          rw [if_pos hc105] at hb1 hnk
          refine wp_skip ?_
          refine wp_region_lit ?_
          refine s_val rfl rfl (v_add rfl hs92 rfl (by omega) (by omega)) ?_
          refine s_val rfl rfl (v_move rfl rfl) ?_
          refine wpList_nil ?_
          refine ⟨gk19 - 1, _, by omega, rfl, i + 1, x, S, rs, by omega, hs0, hs1, hs6, hs7, (hs18.trans (by congr 2; omega)), hs90, hs91, rfl, hsh.cast (by rw [addC_take _ _ _ hil, if_pos hc105, List.append_nil]), LpC.of rfl rfl cx.tl.tl (hz.trans (hh.trans (Fz.tl.trans Fz.tl))) ((hh.trans (Fz.tl.trans Fz.tl)).chs hcf)⟩
      · skip
        try simp only [Bool.and_eq_true, Bool.or_eq_true, Bool.and_eq_false_iff, Bool.or_eq_false_iff, Bool.not_eq_true', Bool.not_eq_false', decide_eq_true_eq, decide_eq_false_iff_not, beq_iff_eq, beq_eq_false_iff_ne, bne_iff_ne, bne_eq_false_iff_eq, ne_eq, Classical.not_not] at hc93
        refine wp_exit ?_
        refine wp_seq ?_
        refine wp_region_lit ?_
        refine s_val rfl rfl (v_move rfl hs0) ?_
        refine s_val rfl rfl (v_assign rfl rfl) ?_
        refine wpList_nil ?_
        refine wp_ret ?_
        refine ret_tmp Try.results96 rfl ?_
        have hib : i = b.fields.length := by omega
        subst hib
        rw [List.take_of_length_le (Nat.le_refl _)] at hsh
        exact ⟨S, rs, hsh, (LpC.of rfl rfl cx hz hcf).drop 2⟩
end Go.Proofs.Ytmkihcdcgkdilaa
end
section
namespace Go.Proofs.Ytmkihcdcgkdilaa
open Go Go.Dk Go.RowKit
set_option linter.unusedSimpArgs false
set_option linter.unusedVariables false
attribute [local irreducible] Go.wpList Go.Code.wp Go.bodyPost Go.wpStill Go.wpQuiet
theorem v_minQ {P : Program} {o : Oper} {w : World} {ρ : Operand → Value} {t t' : TypeId} {x y : Operand} {p q r : Int} (ho : o.op = .call { callee := .builtin .min, args := #[x, y], argTypes := #[t, t'] }) (hx : ρ x = .int .i64 p) (hy : ρ y = .int .i64 q) (hr : r = min p q) : (execOp ρ o).run P w = .ok (.value (.int .i64 r)) w := by
  subst hr
  unfold execOp
  rw [ho]
  have e : (if q < p then q else p) = min p q := by rw [Int.min_def]; split <;> split <;> omega
  simp [resolve, invoke, builtin, hx, hy, run_min_int2, e]
theorem sub_two {w : World} {g i : Nat} {l : List Value} {a b : Value} (h1 : l[i]? = some a) (h2 : l[i + 1]? = some b) (hr : RowAt w g 0 l) : RowAt w g (0 + i) [a, b] := fun j x hj => by
  cases j with
  | zero =>
    obtain rfl : a = x := by simpa using hj
    exact hr i _ h1
  | succ j =>
    cases j with
    | zero =>
      obtain rfl : b = x := by simpa using hj
      have := hr (i + 1) _ h2
      rwa [show 0 + (i + 1) = 0 + i + (0 + 1) by omega] at this
    | succ j => simp at hj

set_option maxRecDepth 10000 in
set_option maxHeartbeats 6400000 in
theorem c97 (E : V → V → Bool) (hE : ∀ x y, E x y = true ↔ canon x = canon y) (d : Nat) (ih : C65 E d) (wb : World) (L : List (Nat × Obj)) (R : List Row) (v : Value) (n : Nat) (cs : List Value) (p : List Stp) (ps : Value) (a b : V) (ra rb : List Value) (w0 : World) : Cxr wb w0 L (⟨35, 29, v, n, cs⟩ :: R) → PthA (F w0 L (⟨35, 29, v, n, cs⟩ :: R)) w0 ps p → RepV (F w0 L (⟨35, 29, v, n, cs⟩ :: R)) w0 a ra → RepV (F w0 L (⟨35, 29, v, n, cs⟩ :: R)) w0 b rb → okd (d + 1) a → okd (d + 1) b → Fine a → Fine b → Nar (d + 1) a b → p.length + (d + 1) ≤ 100 → (d + 1) ≤ 48 → n + (lstC (btw E d) p a.list b.list (common E a.list b.list ++ [(a.list.length, b.list.length)]) 0 0).length ≤ 1048576 → Ret Try.prog 97 [v, ps, .agg ra.toArray, .agg rb.toArray] w0 (BtP wb w0 L R v n cs (lstC (btw E d) p a.list b.list (common E a.list b.list ++ [(a.list.length, b.list.length)]) 0 0)) := by
  intro cx hpp hva hvb hoa hob hfa1 hfb1 hnar hpd hd48 hnT
  have hO1 : ∃ PP, PP = (common E a.list b.list ++ [(a.list.length, b.list.length)]) := ⟨_, rfl⟩
  obtain ⟨PP, hPP⟩ := hO1
  have hinc := inc_common E a.list b.list
  rw [← hPP] at hnT hinc ⊢
  have hPlen := common_few E a.list b.list
  have hO2 := id (RepV.open hva)
  obtain ⟨abs, als, afs, rfl, _, hla, _⟩ := hO2
  have hO3 := id (RepV.open hvb)
  obtain ⟨bbs, bls, bfs, rfl, _, hlb, _⟩ := hO3
  have hO4 := hla.sl
  obtain ⟨a1, c1, rfl⟩ := hO4
  have hO5 := hlb.sl
  obtain ⟨a2, c2, rfl⟩ := hO5
  have hna := hnar.1
  have hnb := hnar.2.1
  have hPl0 : PP.length ≤ 6001 := by rw [hPP, List.length_append, List.length_singleton]; omega
  refine ret_enter Try.func97 rfl Try.ntmps97 rfl ?_
  skip
  refine wp_seq ?_
  refine wp_region_lit ?_
  refine s_box cx rfl rfl rfl rfl rfl ?_; intro b6 w cx hb6 hw6
  refine s_box cx rfl rfl rfl rfl rfl ?_; intro b7 w cx hb7 hw7
  refine s_val rfl rfl (v_assign rfl rfl) ?_
  refine wpList_nil ?_
  refine wp_seq ?_
  refine wp_region_lit ?_
  have hz : Fz w0 L (⟨35, 29, v, n, cs⟩ :: R) w ((b7, .cells (vrow b.sc bbs (.slice a2 b.list.length c2) bfs).toArray 33) :: (b6, .cells (vrow a.sc abs (.slice a1 a.list.length c1) afs).toArray 33) :: L) (⟨35, 29, v, n, cs⟩ :: R) := (Fz.new hb6 hw6).trans (Fz.new hb7 hw7)
  refine s_val rfl rfl (v_assign rfl rfl) ?_
  refine s_val rfl rfl (v_assign rfl rfl) ?_
  refine wpList_nil ?_
  refine wp_seq ?_
  refine w_cut (fun f w1 => ∃ (g c31 : Nat), f 0 = v ∧ f 1 = ps ∧ f 6 = .pointer (some ⟨b6, 0, none⟩) ∧ f 7 = .pointer (some ⟨b7, 0, none⟩) ∧ f 9 = .int .i64 0 ∧ f 10 = .int .i64 0 ∧ f 31 = .slice (some ⟨g, 0, none⟩) PP.length c31 ∧ f 32 = .int .i64 (PP.length : Nat) ∧ f 33 = .int .i64 0 ∧ Cxr wb w1 ((b7, .cells (vrow b.sc bbs (.slice a2 b.list.length c2) bfs).toArray 33) :: (b6, .cells (vrow a.sc abs (.slice a1 a.list.length c1) afs).toArray 33) :: L) (⟨35, 29, v, n, cs⟩ :: R) ∧ Fz w0 L (⟨35, 29, v, n, cs⟩ :: R) w1 ((b7, .cells (vrow b.sc bbs (.slice a2 b.list.length c2) bfs).toArray 33) :: (b6, .cells (vrow a.sc abs (.slice a1 a.list.length c1) afs).toArray 33) :: L) (⟨35, 29, v, n, cs⟩ :: R) ∧ F w1 ((b7, .cells (vrow b.sc bbs (.slice a2 b.list.length c2) bfs).toArray 33) :: (b6, .cells (vrow a.sc abs (.slice a1 a.list.length c1) afs).toArray 33) :: L) (⟨35, 29, v, n, cs⟩ :: R) g ∧ RowAt w1 g 0 (PP.flatMap qrow)) ?_ ?_
  · skip
    refine w_ord cx (cx.pick2 1 0 rfl rfl rfl) mixed [(0, 18), (1, 19), (2, 20), (3, 21), (5, 23), (6, 24), (7, 25), (8, 26), (9, 27), (10, 28), (11, 29), (15, 33)] #[true, true, true, true, false, true, true, true, true, true, true, true, false, false, false, true] (by kernel_rfl) (by kernel_rfl) (by kernel_rfl) (by kernel_rfl) ?_
    refine pu_one rfl (wnt_none rfl) (fun w cx => v_fa fa33_6 rfl rfl) ?_
    refine pu_one rfl (wnt_none rfl) (fun w cx => v_load1 rfl rfl Try.underlying30 rfl (cx.cell 0 rfl rfl)) ?_
    refine pu_one rfl (wnt_none rfl) (fun w cx => v_fa fa33_6 rfl rfl) ?_
    refine pu_one rfl (wnt_none rfl) (fun w cx => v_load1 rfl rfl Try.underlying30 rfl (cx.cell 1 rfl rfl)) ?_
    refine pu_one rfl (wnt_none rfl) (fun w cx => v_fa fa33_6 rfl rfl) ?_
    refine pu_one rfl (wnt_none rfl) (fun w cx => v_load1 rfl rfl Try.underlying30 rfl (cx.cell 0 rfl rfl)) ?_
    refine pu_one rfl (wnt_none rfl) (fun w cx => v_lenSlice rfl rfl Try.underlying30) ?_
    refine pu_one rfl (wnt_none rfl) (fun w cx => v_fa fa33_6 rfl rfl) ?_
    refine pu_one rfl (wnt_none rfl) (fun w cx => v_load1 rfl rfl Try.underlying30 rfl (cx.cell 1 rfl rfl)) ?_
    refine pu_one rfl (wnt_none rfl) (fun w cx => v_lenSlice rfl rfl Try.underlying30) ?_
    refine pu_one rfl (wnt_none rfl) (fun w cx => v_build (bd43 _ _) rfl rfl) ?_
    refine pu_one rfl (wnt_none rfl) (fun w cx => v_move rfl rfl) ?_
    refine pu_nil ?_; intro w cx hwD2
    replace hz := hz.trans (Fz.belC cx hwD2)
    refine x_two (i := 4) (j := 12) (by kernel_rfl) rfl rfl ?_ ?_
    · skip
      refine s_fn cx (c25 E hE a.list b.list _ _ _ (RepL.mono F.lt (fun _ _ => rfl) (hz.repL hla)) (RepL.mono F.lt (fun _ _ => rfl) (hz.repL hlb)) (fun x hx => ⟨okd_mono _ _ _ (hoa.2.2.1 _ hx) (by omega), hfa1.elem hx⟩) (fun x hx => ⟨okd_mono _ _ _ (hob.2.2.1 _ hx) (by omega), hfb1.elem hx⟩) hnar.1 hnar.2.1 hnar.2.2.1) Try.func25 rfl rfl rfl rfl rfl rfl ?_; intro q22 w cx2 hw22 hp22
      replace hz := hz.trans (Fz.adopt hw22 hp22)
      try replace hr30 := hr30.up hw22
      have hO6 := own_row hp22
      obtain ⟨ap, cp, rfl, hrp⟩ := hO6
      replace cx := cx.adopt hw22 hp22
      clear cx2
      refine x_next ⟨.inl (cx.pick2 1 0 rfl rfl rfl), ?_⟩
      refine x_one (i := 12) (by kernel_rfl) rfl ?_
      refine s_bsl1 cx Try.underlying41 sz43 z43 rfl rfl rfl rfl rfl rfl rfl rfl ?_; intro b30 w cx hb30 hw30
      have hr30 : RowAt w b30 0 [.int .i64 (a.list.length : Int), .int .i64 (b.list.length : Int)] := cx.row 0 rfl
      replace cx := cx.tl
      replace hz := hz.trans (Fz.belC cx hw30)
      refine x_next ⟨.inl (cx.pick2 1 0 rfl rfl rfl), ?_⟩
      refine x_one (i := 13) (by kernel_rfl) rfl ?_
      refine s_appendG (m := 1) cx ei43 Try.underlying41 rfl rfl rfl rfl rfl hr30 rfl rfl (by omega) ?_; intro v31 w cx hgr31 hnw31
      replace hz := hz.trans (Fz.appC cx hgr31 hnw31)
      have hO7 := cx.ownRow
      obtain ⟨a31, c31, rfl, h31⟩ := hO7
      have hO8 := h31 (by omega)
      obtain ⟨g, rfl, hrowB⟩ := hO8
      have hFg := F.row1 cx g rfl
      replace hz := hz.trans Fz.tlR
      replace cx := cx.tlR
      have hPl : PP.length = (common E a.list b.list).length + 1 := by rw [hPP, List.length_append, List.length_singleton]
      have hPf : (common E a.list b.list).flatMap qrow ++ [.int .i64 (a.list.length : Int), .int .i64 (b.list.length : Int)] = PP.flatMap qrow := by rw [hPP, qflat_snoc]; rfl
      rw [hPf] at hrowB
      rw [← hPl]
      refine x_next ⟨.inl (cx.pick2 1 0 rfl rfl rfl), ?_⟩
      refine x_one (i := 14) (by kernel_rfl) rfl ?_
      refine s_val rfl rfl (v_lenSlice rfl rfl Try.underlying41) ?_
      refine x_next ⟨.inl (cx.pick2 1 0 rfl rfl rfl), ?_⟩
      refine x_done (by kernel_rfl) ?_
      exact ⟨_, rfl, g, c31, rfl, rfl, rfl, rfl, rfl, rfl, rfl, (by rw [hPl]; rfl), rfl, cx, hz, hFg, hrowB⟩
    · skip
      refine s_bsl1 cx Try.underlying41 sz43 z43 rfl rfl rfl rfl rfl rfl rfl rfl ?_; intro b30 w cx hb30 hw30
      have hr30 : RowAt w b30 0 [.int .i64 (a.list.length : Int), .int .i64 (b.list.length : Int)] := cx.row 0 rfl
      replace cx := cx.tl
      replace hz := hz.trans (Fz.belC cx hw30)
      refine x_next ⟨.inl (cx.pick2 1 0 rfl rfl rfl), ?_⟩
      refine x_one (i := 4) (by kernel_rfl) rfl ?_
      refine s_fn cx (c25 E hE a.list b.list _ _ _ (RepL.mono F.lt (fun _ _ => rfl) (hz.repL hla)) (RepL.mono F.lt (fun _ _ => rfl) (hz.repL hlb)) (fun x hx => ⟨okd_mono _ _ _ (hoa.2.2.1 _ hx) (by omega), hfa1.elem hx⟩) (fun x hx => ⟨okd_mono _ _ _ (hob.2.2.1 _ hx) (by omega), hfb1.elem hx⟩) hnar.1 hnar.2.1 hnar.2.2.1) Try.func25 rfl rfl rfl rfl rfl rfl ?_; intro q22 w cx2 hw22 hp22
      replace hz := hz.trans (Fz.adopt hw22 hp22)
      try replace hr30 := hr30.up hw22
      have hO9 := own_row hp22
      obtain ⟨ap, cp, rfl, hrp⟩ := hO9
      replace cx := cx.adopt hw22 hp22
      clear cx2
      refine x_next ⟨.inl (cx.pick2 1 0 rfl rfl rfl), ?_⟩
      refine x_one (i := 13) (by kernel_rfl) rfl ?_
      refine s_appendG (m := 1) cx ei43 Try.underlying41 rfl rfl rfl rfl rfl hr30 rfl rfl (by omega) ?_; intro v31 w cx hgr31 hnw31
      replace hz := hz.trans (Fz.appC cx hgr31 hnw31)
      have hO10 := cx.ownRow
      obtain ⟨a31, c31, rfl, h31⟩ := hO10
      have hO11 := h31 (by omega)
      obtain ⟨g, rfl, hrowB⟩ := hO11
      have hFg := F.row1 cx g rfl
      replace hz := hz.trans Fz.tlR
      replace cx := cx.tlR
      have hPl : PP.length = (common E a.list b.list).length + 1 := by rw [hPP, List.length_append, List.length_singleton]
      have hPf : (common E a.list b.list).flatMap qrow ++ [.int .i64 (a.list.length : Int), .int .i64 (b.list.length : Int)] = PP.flatMap qrow := by rw [hPP, qflat_snoc]; rfl
      rw [hPf] at hrowB
      rw [← hPl]
      refine x_next ⟨.inl (cx.pick2 1 0 rfl rfl rfl), ?_⟩
      refine x_one (i := 14) (by kernel_rfl) rfl ?_
      refine s_val rfl rfl (v_lenSlice rfl rfl Try.underlying41) ?_
      refine x_next ⟨.inl (cx.pick2 1 0 rfl rfl rfl), ?_⟩
      refine x_done (by kernel_rfl) ?_
      exact ⟨_, rfl, g, c31, rfl, rfl, rfl, rfl, rfl, rfl, rfl, (by rw [hPl]; rfl), rfl, cx, hz, hFg, hrowB⟩
  intro f w hJ
  obtain ⟨g, c31, hs0, hs1, hs6, hs7, hs9, hs10, hs31, hs32, hs33, cx, hzB, hFg, hrowB⟩ := hJ
  replace hpp := hzB.pth hpp
  replace hla := hzB.repL hla
  replace hlb := hzB.repL hlb
  have hO12 := id hla
  obtain ⟨b1, o1, hsl1, hreps1⟩ := hO12
  have hO13 := hsl1.form
  obtain ⟨a1', c1', e1, hfa1'⟩ := hO13
  cases e1
  have hO14 := id hlb
  obtain ⟨b2, o2, hsl2, hreps2⟩ := hO14
  have hO15 := hsl2.form
  obtain ⟨a2', c2', e2, hfa2'⟩ := hO15
  cases e2
  have hO16 : ∃ y, y = w := ⟨_, rfl⟩
  obtain ⟨wB, hwB⟩ := hO16
  subst hwB
  refine wp_block ?_
  refine w_loop (fun k f w1 => ∃ (t : Nat) (z : Value) (S : List Ch) (rs : List (List Value)), k + t = PP.length ∧ f 0 = z ∧ f 1 = ps ∧ f 6 = .pointer (some ⟨b6, 0, none⟩) ∧ f 7 = .pointer (some ⟨b7, 0, none⟩) ∧ f 31 = .slice (some ⟨g, 0, none⟩) PP.length c31 ∧ f 32 = .int .i64 (PP.length : Nat) ∧ f 33 = .int .i64 (t : Nat) ∧ f 9 = .int .i64 ((aft (PP.take t) 0 0).1 : Nat) ∧ f 10 = .int .i64 ((aft (PP.take t) 0 0).2 : Nat) ∧ Sho n (lstC (btw E d) p a.list b.list (PP.take t) 0 0) S ∧ LpC wb wB ((b7, .cells (vrow b.sc bbs (.slice a2 b.list.length c2) bfs).toArray 33) :: (b6, .cells (vrow a.sc abs (.slice a1 a.list.length c1) afs).toArray 33) :: L) (⟨35, 29, v, n, cs⟩ :: R) ((b7, .cells (vrow b.sc bbs (.slice a2 b.list.length c2) bfs).toArray 33) :: (b6, .cells (vrow a.sc abs (.slice a1 a.list.length c1) afs).toArray 33) :: L) R n cs S z rs w1) (PP.length) ?_ ?_
  · skip
    exact ⟨0, v, [], [], by omega, hs0, hs1, hs6, hs7, hs31, hs32, hs33, hs9, hs10, (Sho.nil n).cast (by simp [lstC]), LpC.zero cx hzB.self⟩
  intro gk3 f w hJ
  obtain ⟨t, z, S, rs, hkt, hs0, hs1, hs6, hs7, hs31, hs32, hs33, hs9, hs10, hsh, cx, hz, hcf⟩ := hJ
  refine wp_seq ?_
  refine wp_region_lit ?_
  refine s_val rfl rfl (v_cmp rfl hs33 hs32 rfl) ?_
  refine wpList_nil ?_
  refine wp_seq ?_
  refine c_split rfl (fun hc34 => ?_) (fun hc34 => ?_)
  · skip
    try simp only [Bool.and_eq_true, Bool.or_eq_true, Bool.and_eq_false_iff, Bool.or_eq_false_iff, Bool.not_eq_true', Bool.not_eq_false', decide_eq_true_eq, decide_eq_false_iff_not, beq_iff_eq, beq_eq_false_iff_ne, bne_iff_ne, bne_eq_false_iff_eq, ne_eq, Classical.not_not] at hc34
    have htl : t < PP.length := by omega
    have hO17 : ∃ i j, aft (PP.take t) 0 0 = (i, j) := ⟨_, _, rfl⟩
    obtain ⟨i, j, hij⟩ := hO17
    have hO18 : ∃ x y, PP[t] = (x, y) := ⟨_, _, rfl⟩
    obtain ⟨x, y, hxy⟩ := hO18
    have hin := inc_aft PP 0 0 t hinc htl
    have hpt : PP[t]? = some (x, y) := by rw [List.getElem?_eq_getElem htl, hxy]
    rw [hij, hxy] at hin
    rw [hij] at hs9 hs10
    obtain ⟨hix, hjy, hxa, hyb⟩ := hin
    dsimp only at hix hjy hxa hyb hs9 hs10
    have hO19 : ∃ M, M = min (x - i) (y - j) := ⟨_, rfl⟩
    obtain ⟨M, hM⟩ := hO19
    have hbl := lstC_le (btw E d) p a.list b.list PP (t + 1)
    have hlt := lstC_take (btw E d) p a.list b.list htl
    rw [hij, hxy] at hlt
    dsimp only at hlt
    rw [gapC_M _ _ _ _ _ _ _ _ M hM] at hlt
    rw [hlt] at hbl
    simp only [List.length_append, gp2_len, gp3_len] at hbl
    have hrg := hz.row hrowB hFg
    have hq1 := sub_two (qflat_at hpt).1 (qflat_at hpt).2 hrg
    refine wp_skip ?_
    refine wp_seq ?_
    refine wp_block ?_
    refine wp_seq ?_
    refine wp_region_lit ?_
    refine s_val rfl rfl (v_ia Try.underlying41 sz43 rfl hs31 hs33 (by omega) (by omega)) ?_
    refine s_val rfl rfl (v_load rfl rfl Try.underlying43 rfl sz43 hq1 rfl) ?_
    refine s_alloc cx z43 rfl rfl rfl ?_; intro b12 w cx hb12 hw12
    refine s_storeAllG cx 0 rfl rfl rfl rfl rfl rfl sz43 rfl rfl ?_; intro w cx hg12
    replace cx := cx.set0
    have hzs := Fz.newSet cx hb12 hw12 hg12
    replace hcf := hzs.chs hcf
    replace hz := hz.trans hzs
    refine wpList_nil ?_
    refine wp_seq ?_
    refine w_still cx mixed (by kernel_rfl) ?_; intro w cx hwD5
    skip
    refine t_val rfl rfl (v_iaR (r := 0) Try.underlying43 sz3 rfl rfl rfl (by omega) (by omega) rfl) ?_
    refine t_val rfl rfl (v_load1 rfl rfl Try.underlying3 rfl (cx.cell 0 rfl rfl)) ?_
    refine t_val rfl rfl (v_move rfl hs9) ?_
    refine t_val rfl rfl (v_subQ rfl rfl rfl (r := ((x - i : Nat) : Int)) (by omega) (by omega) (by omega)) ?_
    refine t_val rfl rfl (v_iaR (r := 1) Try.underlying43 sz3 rfl rfl rfl (by omega) (by omega) rfl) ?_
    refine t_val rfl rfl (v_load1 rfl rfl Try.underlying3 rfl (cx.cell 0 rfl rfl)) ?_
    refine t_val rfl rfl (v_move rfl hs10) ?_
    refine t_val rfl rfl (v_subQ rfl rfl rfl (r := ((y - j : Nat) : Int)) (by omega) (by omega) (by omega)) ?_
    refine t_val rfl rfl (v_assign rfl rfl) ?_
    refine t_val rfl rfl (v_assign rfl rfl) ?_
    refine t_nil ?_
    refine wp_seq ?_
    refine wp_seq ?_
    refine wp_region_lit ?_
    replace hz := hz.trans (Fz.belC cx hwD5)
    replace hcf := (Fz.belC cx hwD5).chs hcf
    refine s_val rfl rfl (v_move rfl rfl) ?_
    refine s_val rfl rfl (v_move rfl rfl) ?_
    refine s_val rfl rfl (v_minQ rfl rfl rfl (r := ((M : Nat) : Int)) (by omega)) ?_
    refine s_val rfl rfl (v_move rfl rfl) ?_
    refine wpList_nil ?_
    refine wp_block ?_
    refine w_loop (fun k f w1 => ∃ (s : Nat) (z : Value) (S : List Ch) (rs : List (List Value)), k + s = M ∧ f 0 = z ∧ f 1 = ps ∧ f 6 = .pointer (some ⟨b6, 0, none⟩) ∧ f 7 = .pointer (some ⟨b7, 0, none⟩) ∧ f 31 = .slice (some ⟨g, 0, none⟩) PP.length c31 ∧ f 32 = .int .i64 (PP.length : Nat) ∧ f 33 = .int .i64 (t : Nat) ∧ f 9 = .int .i64 (i : Nat) ∧ f 10 = .int .i64 (j : Nat) ∧ f 12 = .pointer (some ⟨b12, 0, none⟩) ∧ f 13 = .int .i64 ((x - i : Nat) : Int) ∧ f 14 = .int .i64 ((y - j : Nat) : Int) ∧ f 47 = .int .i64 (M : Nat) ∧ f 48 = .int .i64 (s : Nat) ∧ Sho n ((lstC (btw E d) p a.list b.list (PP.take t) 0 0) ++ gp1 (btw E d) p a.list b.list i j s) S ∧ LpC wb wB ((b7, .cells (vrow b.sc bbs (.slice a2 b.list.length c2) bfs).toArray 33) :: (b6, .cells (vrow a.sc abs (.slice a1 a.list.length c1) afs).toArray 33) :: L) (⟨35, 29, v, n, cs⟩ :: R) ((b12, .cells ([.int .i64 (x : Int), .int .i64 (y : Int)] : List Value).toArray 43) :: ((b7, .cells (vrow b.sc bbs (.slice a2 b.list.length c2) bfs).toArray 33) :: (b6, .cells (vrow a.sc abs (.slice a1 a.list.length c1) afs).toArray 33) :: L)) R n cs S z rs w1) (M) ?_ ?_
    · skip
      exact ⟨0, z, S, rs, by omega, hs0, hs1, hs6, hs7, hs31, hs32, hs33, hs9, hs10, rfl, rfl, rfl, rfl, rfl, hsh.cast (by rw [gp1_zero, List.append_nil]), LpC.of rfl rfl cx hz hcf⟩
    intro gk7 f w hJ
    obtain ⟨s, z, S, rs, hks, hs0, hs1, hs6, hs7, hs31, hs32, hs33, hs9, hs10, hs12, hs13, hs14, hs47, hs48, hsh, cx, hz, hcf⟩ := hJ
    refine wp_seq ?_
    refine wp_region_lit ?_
    refine s_val rfl rfl (v_cmp rfl hs48 hs47 rfl) ?_
    refine wpList_nil ?_
    refine wp_seq ?_
    refine c_split rfl (fun hc49 => ?_) (fun hc49 => ?_)
    · skip
      try simp only [Bool.and_eq_true, Bool.or_eq_true, Bool.and_eq_false_iff, Bool.or_eq_false_iff, Bool.not_eq_true', Bool.not_eq_false', decide_eq_true_eq, decide_eq_false_iff_not, beq_iff_eq, beq_eq_false_iff_ne, bne_iff_ne, bne_eq_false_iff_eq, ne_eq, Classical.not_not] at hc49
      have hsM : s < M := by omega
      have hgl := gp1_le (btw E d) p a.list b.list i j (show s + 1 ≤ M by omega)
      have hO20 := hfa1' (by omega)
      obtain rfl := hO20
      have hF1 := hsl1.inA (by omega)
      have hO21 := lst_at hz hreps1 (i := i + s) (by omega) hF1
      obtain ⟨r1, hr1, hv1⟩ := hO21
      replace hF1 := hz.up _ hF1
      have hge1 := getD_at (l := a.list) (i := i + s) (by omega)
      have hO22 := hfa2' (by omega)
      obtain rfl := hO22
      have hF2 := hsl2.inA (by omega)
      have hO23 := lst_at hz hreps2 (i := j + s) (by omega) hF2
      obtain ⟨r2, hr2, hv2⟩ := hO23
      replace hF2 := hz.up _ hF2
      have hge2 := getD_at (l := b.list) (i := j + s) (by omega)
      rw [gp1_succ, hge1, hge2, List.length_append] at hgl
      have hSl := hsh.1
      rw [List.length_append] at hSl
      have hh := hz.self
      refine wp_skip ?_
      refine wp_seq ?_
      refine wp_block ?_
      refine wp_seq ?_
      refine wp_region_lit ?_
      refine s_val rfl rfl (v_move rfl hs48) ?_
      refine s_val rfl rfl (v_assign rfl rfl) ?_
      refine wpList_nil ?_
      refine w_ordK cx (cx.pick2 1 2 rfl rfl rfl) hh.kp mixed [(0, 51), (1, 52), (2, 53), (3, 54), (4, 55), (7, 58), (8, 59), (9, 60), (10, 61), (11, 62), (12, 63), (13, 64), (14, 65), (15, 66), (16, 67), (17, 68), (18, 69), (19, 70), (20, 71)] #[true, true, true, true, true, false, false, true, true, true, true, true, true, true, true, true, true, true, true, true, true, false, false] (by kernel_rfl) (by kernel_rfl) (by kernel_rfl) (by kernel_rfl) ?_
      refine pu_one rfl (wnt_none rfl) (fun w hS => by obtain ⟨cx, hkS⟩ := hS; exact v_move rfl hs0) ?_
      refine pu_one rfl (wnt_none rfl) (fun w hS => by obtain ⟨cx, hkS⟩ := hS; exact v_move rfl hs1) ?_
      refine pu_one rfl (wnt_none rfl) (fun w hS => by obtain ⟨cx, hkS⟩ := hS; exact v_move rfl hs10) ?_
      refine pu_one rfl (wnt_none rfl) (fun w hS => by obtain ⟨cx, hkS⟩ := hS; exact v_move rfl rfl) ?_
      refine pu_one rfl (wnt_none rfl) (fun w hS => by obtain ⟨cx, hkS⟩ := hS; exact v_addQ rfl rfl rfl (r := ((j + s : Nat) : Int)) (by omega) (by omega) (by omega)) ?_
      refine pu_one rfl (wnt_none rfl) (fun w hS => by obtain ⟨cx, hkS⟩ := hS; exact v_fa fa33_6 rfl hs6) ?_
      refine pu_one rfl (wnt_none rfl) (fun w hS => by obtain ⟨cx, hkS⟩ := hS; exact v_load1 rfl rfl Try.underlying30 rfl (cx.cell 1 rfl rfl)) ?_
      refine pu_one rfl (wnt_none rfl) (fun w hS => by obtain ⟨cx, hkS⟩ := hS; exact v_move rfl hs9) ?_
      refine pu_one rfl (wnt_none rfl) (fun w hS => by obtain ⟨cx, hkS⟩ := hS; exact v_move rfl rfl) ?_
      refine pu_one rfl (wnt_none rfl) (fun w hS => by obtain ⟨cx, hkS⟩ := hS; exact v_addQ rfl rfl rfl (r := ((i + s : Nat) : Int)) (by omega) (by omega) (by omega)) ?_
      refine pu_one rfl (wnt_none rfl) (fun w hS => by obtain ⟨cx, hkS⟩ := hS; exact v_ia Try.underlying30 sz33 rfl rfl rfl (by omega) (by omega)) ?_
      refine pu_one rfl (wnt_none rfl) (fun w hS => by obtain ⟨cx, hkS⟩ := hS; exact v_load rfl rfl Try.underlying33 rfl sz33 (hr1.keep (hkS _ hF1)) hv1.len) ?_
      refine pu_one rfl (wnt_none rfl) (fun w hS => by obtain ⟨cx, hkS⟩ := hS; exact v_fa fa33_6 rfl hs7) ?_
      refine pu_one rfl (wnt_none rfl) (fun w hS => by obtain ⟨cx, hkS⟩ := hS; exact v_load1 rfl rfl Try.underlying30 rfl (cx.cell 0 rfl rfl)) ?_
      refine pu_one rfl (wnt_none rfl) (fun w hS => by obtain ⟨cx, hkS⟩ := hS; exact v_move rfl hs10) ?_
      refine pu_one rfl (wnt_none rfl) (fun w hS => by obtain ⟨cx, hkS⟩ := hS; exact v_move rfl rfl) ?_
      refine pu_one rfl (wnt_none rfl) (fun w hS => by obtain ⟨cx, hkS⟩ := hS; exact v_addQ rfl rfl rfl (r := ((j + s : Nat) : Int)) (by omega) (by omega) (by omega)) ?_
      refine pu_one rfl (wnt_none rfl) (fun w hS => by obtain ⟨cx, hkS⟩ := hS; exact v_ia Try.underlying30 sz33 rfl rfl rfl (by omega) (by omega)) ?_
      refine pu_one rfl (wnt_none rfl) (fun w hS => by obtain ⟨cx, hkS⟩ := hS; exact v_load rfl rfl Try.underlying33 rfl sz33 (hr2.keep (hkS _ hF2)) hv2.len) ?_
      refine pu_nil ?_; intro w cx hwD9 hkS9
      replace hh := hh.trans (Fz.belC cx hwD9)
      replace hv1 := (Fz.belC cx hwD9).rep hv1
      replace hv2 := (Fz.belC cx hwD9).rep hv2
      refine x_one (i := 5) (by kernel_rfl) rfl ?_
      refine s_fn cx (c83 (j + s) _) Try.func83 rfl rfl rfl rfl rfl rfl ?_; intro q56 w cx hw56 hp56
      subst hp56
      replace hh := hh.trans (Fz.belC cx hw56)
      replace hv1 := (Fz.belC cx hw56).rep hv1
      replace hv2 := (Fz.belC cx hw56).rep hv2
      refine x_next ⟨.inl ⟨cx.pick2 1 2 rfl rfl rfl, hh.kp⟩, ?_⟩
      refine x_one (i := 6) (by kernel_rfl) rfl ?_
      have cx57 := cx
      refine s_fn cx (c81 (idxS (j + s)) _ p _ _ F.lt ((hz.trans hh).pth hpp) (by omega)) Try.func81 rfl rfl rfl rfl rfl rfl ?_; intro q57 w cx hw57 hp57
      replace hp57 := hp57.fr cx57 hw57.size
      replace hh := hh.trans (Fz.belC cx hw57)
      replace hv1 := (Fz.belC cx hw57).rep hv1
      replace hv2 := (Fz.belC cx hw57).rep hv2
      refine x_next ⟨.inl ⟨cx.pick2 1 2 rfl rfl rfl, hh.kp⟩, ?_⟩
      refine x_one (i := 21) (by kernel_rfl) rfl ?_
      refine s_callR rfl rfl (runs_fn Try.func65 rfl rfl rfl rfl) (ih wb _ _ z _ _ (p ++ [idxS (j + s)]) _ a.list[i + s] b.list[j + s] _ _ _ cx hp57 hv1 hv2 (hoa.2.2.1 _ (List.getElem_mem _)) (hob.2.2.1 _ (List.getElem_mem _)) (hfa1.elem (List.getElem_mem _)) (hfb1.elem (List.getElem_mem _)) (hnar.elem (List.getElem_mem _) (List.getElem_mem _)) (by rw [List.length_append, List.length_singleton]; omega) (by omega) (by omega)) ?_; intro q72 w hp72
      obtain ⟨S2, rs2, hsh2, cx, hz2, hcf2⟩ := hp72
      replace hh := hh.trans hz2
      refine x_next ⟨.inr (by kernel_rfl), ?_⟩
      refine x_one (i := 22) (by kernel_rfl) rfl ?_
      refine s_val rfl rfl (v_assign rfl rfl) ?_
      refine x_next ⟨.inr (by kernel_rfl), ?_⟩
      refine x_done (by kernel_rfl) ?_
      refine wp_region_lit ?_
      refine s_val rfl rfl (v_addQ rfl hs48 rfl (r := ((s + 1 : Nat) : Int)) (by omega) (by omega) (by omega)) ?_
      refine s_val rfl rfl (v_move rfl rfl) ?_
      refine wpList_nil ?_
      refine ⟨gk7 - 1, _, by omega, rfl, s + 1, q72, S ++ S2, rs ++ rs2, by omega, rfl, hs1, hs6, hs7, hs31, hs32, hs33, hs9, hs10, hs12, hs13, hs14, hs47, rfl, (hsh.append hsh2).cast (by rw [gp1_succ, hge1, hge2, List.append_assoc]), LpC.of ?_ ?_ cx (hz.trans hh) (Rws.append (hh.chs hcf) hcf2)⟩
      · simp only [List.length_append]; omega
      · simp
    · skip
      try simp only [Bool.and_eq_true, Bool.or_eq_true, Bool.and_eq_false_iff, Bool.or_eq_false_iff, Bool.not_eq_true', Bool.not_eq_false', decide_eq_true_eq, decide_eq_false_iff_not, beq_iff_eq, beq_eq_false_iff_ne, bne_iff_ne, bne_eq_false_iff_eq, ne_eq, Classical.not_not] at hc49
      refine wp_exit ?_
      refine wp_seq ?_
      refine wp_seq ?_
      refine wp_region_lit ?_
      refine s_val rfl rfl (v_move rfl hs14) ?_
      refine s_val rfl rfl (v_assign rfl rfl) ?_
      refine wpList_nil ?_
      refine wp_block ?_
      have hsM : M = s := by omega
      subst hsM
      refine w_loop (fun k f w1 => ∃ (s : Nat) (z : Value) (S : List Ch) (rs : List (List Value)), k + s = x - i - (y - j) ∧ f 0 = z ∧ f 1 = ps ∧ f 6 = .pointer (some ⟨b6, 0, none⟩) ∧ f 7 = .pointer (some ⟨b7, 0, none⟩) ∧ f 31 = .slice (some ⟨g, 0, none⟩) PP.length c31 ∧ f 32 = .int .i64 (PP.length : Nat) ∧ f 33 = .int .i64 (t : Nat) ∧ f 9 = .int .i64 (i : Nat) ∧ f 10 = .int .i64 (j : Nat) ∧ f 12 = .pointer (some ⟨b12, 0, none⟩) ∧ f 13 = .int .i64 ((x - i : Nat) : Int) ∧ f 14 = .int .i64 ((y - j : Nat) : Int) ∧ f 16 = .int .i64 ((y - j + s : Nat) : Int) ∧ Sho n ((lstC (btw E d) p a.list b.list (PP.take t) 0 0) ++ gp1 (btw E d) p a.list b.list i j M ++ gp2 p a.list i j M s) S ∧ LpC wb wB ((b7, .cells (vrow b.sc bbs (.slice a2 b.list.length c2) bfs).toArray 33) :: (b6, .cells (vrow a.sc abs (.slice a1 a.list.length c1) afs).toArray 33) :: L) (⟨35, 29, v, n, cs⟩ :: R) ((b12, .cells ([.int .i64 (x : Int), .int .i64 (y : Int)] : List Value).toArray 43) :: ((b7, .cells (vrow b.sc bbs (.slice a2 b.list.length c2) bfs).toArray 33) :: (b6, .cells (vrow a.sc abs (.slice a1 a.list.length c1) afs).toArray 33) :: L)) R n cs S z rs w1) (x - i - (y - j)) ?_ ?_
      · skip
        exact ⟨0, z, S, rs, by omega, hs0, hs1, hs6, hs7, hs31, hs32, hs33, hs9, hs10, hs12, hs13, hs14, rfl, hsh.cast (by rw [gp2_zero, List.append_nil]), LpC.of rfl rfl cx hz hcf⟩
      intro gk12 f w hJ
      obtain ⟨s, z, S, rs, hks, hs0, hs1, hs6, hs7, hs31, hs32, hs33, hs9, hs10, hs12, hs13, hs14, hs16, hsh, cx, hz, hcf⟩ := hJ
      refine wp_seq ?_
      refine wp_seq ?_
      refine wp_region_lit ?_
      refine s_val rfl rfl (v_move rfl hs16) ?_
      refine s_val rfl rfl (v_move rfl hs13) ?_
      refine s_val rfl rfl (v_cmp rfl rfl rfl rfl) ?_
      refine wpList_nil ?_
      refine c_split rfl (fun hc77 => ?_) (fun hc77 => ?_)
      · skip
        try simp only [Bool.and_eq_true, Bool.or_eq_true, Bool.and_eq_false_iff, Bool.or_eq_false_iff, Bool.not_eq_true', Bool.not_eq_false', decide_eq_true_eq, decide_eq_false_iff_not, beq_iff_eq, beq_eq_false_iff_ne, bne_iff_ne, bne_eq_false_iff_eq, ne_eq, Classical.not_not] at hc77
        have hsM : s < x - i - (y - j) := by omega
        have hMy : M = y - j := by omega
        have hO24 := hfa1' (by omega)
        obtain rfl := hO24
        have hF1 := hsl1.inA (by omega)
        have hO25 := lst_at hz hreps1 (i := i + M + s) (by omega) hF1
        obtain ⟨r1, hr1, hv1⟩ := hO25
        replace hF1 := hz.up _ hF1
        have hge1 := getD_at (l := a.list) (i := i + M + s) (by omega)
        have hSl := hsh.1
        simp only [List.length_append, gp2_len] at hSl
        have hh := hz.self
        refine wp_skip ?_
        refine wp_seq ?_
        refine wp_block ?_
        refine w_ordK cx (cx.pick2 1 2 rfl rfl rfl) hh.kp mixed [(0, 80), (1, 81), (2, 82), (3, 83), (4, 84), (7, 87), (8, 88), (9, 89), (10, 90), (11, 91), (12, 92), (13, 93)] #[true, true, true, true, true, false, false, true, true, true, true, true, true, true, false, false, false, false, false] (by kernel_rfl) (by kernel_rfl) (by kernel_rfl) (by kernel_rfl) ?_
        refine pu_one rfl (wnt_none rfl) (fun w hS => by obtain ⟨cx, hkS⟩ := hS; exact v_move rfl hs0) ?_
        refine pu_one rfl (wnt_none rfl) (fun w hS => by obtain ⟨cx, hkS⟩ := hS; exact v_move rfl hs1) ?_
        refine pu_one rfl (wnt_none rfl) (fun w hS => by obtain ⟨cx, hkS⟩ := hS; exact v_move rfl hs10) ?_
        refine pu_one rfl (wnt_none rfl) (fun w hS => by obtain ⟨cx, hkS⟩ := hS; exact v_move rfl hs14) ?_
        refine pu_one rfl (wnt_none rfl) (fun w hS => by obtain ⟨cx, hkS⟩ := hS; exact v_addQ rfl rfl rfl (r := ((j + M : Nat) : Int)) (by omega) (by omega) (by omega)) ?_
        refine pu_one rfl (wnt_none rfl) (fun w hS => by obtain ⟨cx, hkS⟩ := hS; exact v_fa fa33_6 rfl hs6) ?_
        refine pu_one rfl (wnt_none rfl) (fun w hS => by obtain ⟨cx, hkS⟩ := hS; exact v_load1 rfl rfl Try.underlying30 rfl (cx.cell 1 rfl rfl)) ?_
        refine pu_one rfl (wnt_none rfl) (fun w hS => by obtain ⟨cx, hkS⟩ := hS; exact v_move rfl hs9) ?_
        refine pu_one rfl (wnt_none rfl) (fun w hS => by obtain ⟨cx, hkS⟩ := hS; exact v_move rfl hs16) ?_
        refine pu_one rfl (wnt_none rfl) (fun w hS => by obtain ⟨cx, hkS⟩ := hS; exact v_addQ rfl rfl rfl (r := ((i + M + s : Nat) : Int)) (by omega) (by omega) (by omega)) ?_
        refine pu_one rfl (wnt_none rfl) (fun w hS => by obtain ⟨cx, hkS⟩ := hS; exact v_ia Try.underlying30 sz33 rfl rfl rfl (by omega) (by omega)) ?_
        refine pu_one rfl (wnt_none rfl) (fun w hS => by obtain ⟨cx, hkS⟩ := hS; exact v_load rfl rfl Try.underlying33 rfl sz33 (hr1.keep (hkS _ hF1)) hv1.len) ?_
        refine pu_nil ?_; intro w cx hwD14 hkS14
        replace hh := hh.trans (Fz.belC cx hwD14)
        replace hv1 := (Fz.belC cx hwD14).rep hv1
        refine x_one (i := 5) (by kernel_rfl) rfl ?_
        refine s_fn cx (c83 (j + M) _) Try.func83 rfl rfl rfl rfl rfl rfl ?_; intro q85 w cx hw85 hp85
        subst hp85
        replace hh := hh.trans (Fz.belC cx hw85)
        replace hv1 := (Fz.belC cx hw85).rep hv1
        try replace hr94 := (Fz.belC cx hw85).rep hr94
        refine x_next ⟨.inl ⟨cx.pick2 1 2 rfl rfl rfl, hh.kp⟩, ?_⟩
        refine x_one (i := 6) (by kernel_rfl) rfl ?_
        have cx86 := cx
        refine s_fn cx (c81 (idxS (j + M)) _ p _ _ F.lt ((hz.trans hh).pth hpp) (by omega)) Try.func81 rfl rfl rfl rfl rfl rfl ?_; intro q86 w cx hw86 hp86
        replace hp86 := hp86.fr cx86 hw86.size
        replace hh := hh.trans (Fz.belC cx hw86)
        replace hv1 := (Fz.belC cx hw86).rep hv1
        try replace hr94 := (Fz.belC cx hw86).rep hr94
        refine x_next ⟨.inl ⟨cx.pick2 1 2 rfl rfl rfl, hh.kp⟩, ?_⟩
        refine x_one (i := 14) (by kernel_rfl) rfl ?_
        have cx94 := cx
        refine s_fn cx (c60 48 (a.list[i + M + s]) _ _ (deep_mono _ _ _ (deep_of_okd _ _ (hoa.2.2.1 _ (List.getElem_mem _))) (by omega)) (by omega) hv1.val (hfa1.elem (List.getElem_mem _))) Try.func60 rfl rfl rfl rfl rfl rfl ?_; intro q94 w cx hw94 hp94
        have hO26 := Made.fr hp94 cx94 hw94
        obtain ⟨cb94, cl94, cf94, rfl, hr94⟩ := hO26
        replace hh := hh.trans (Fz.belC cx hw94)
        replace hv1 := (Fz.belC cx hw94).rep hv1
        try replace hp86 := (Fz.belC cx hw94).pth hp86
        refine x_next ⟨.inl ⟨cx.pick2 1 2 rfl rfl rfl, hh.kp⟩, ?_⟩
        refine x_one (i := 15) (by kernel_rfl) rfl ?_
        have hO27 := hp86.sl
        obtain ⟨pa, pc, rfl⟩ := hO27
        refine s_val rfl rfl (v_build (bd35r _ _ _ _ _ _ _) rfl rfl) ?_
        refine x_next ⟨.inl ⟨cx.pick2 1 2 rfl rfl rfl, hh.kp⟩, ?_⟩
        refine x_one (i := 16) (by kernel_rfl) rfl ?_
        refine s_bsl1 cx Try.underlying22 sz35 z35 rfl rfl rfl rfl rfl rfl rfl rfl ?_; intro b96 w cx hb96 hw96
        have hr96 : RowAt w b96 0 (.int .i64 3 :: .slice pa (p ++ [idxS (j + M)]).length pc :: .int .i64 0 :: (vrow a.list[i + M + s].sc cb94 cl94 cf94 ++ vrow (zk 0) (.slice none 0 0) (.slice none 0 0) (.slice none 0 0))) := cx.row 0 rfl
        replace cx := cx.tl
        replace hh := hh.trans (Fz.belC cx hw96)
        replace hr94 := (Fz.belC cx hw96).rep hr94
        replace hp86 := (Fz.belC cx hw96).pth hp86
        refine x_next ⟨.inl ⟨cx.pick2 1 2 rfl rfl rfl, hh.kp⟩, ?_⟩
        refine x_one (i := 17) (by kernel_rfl) rfl ?_
        have hcn : chA (F w _ _) w (⟨3, p ++ [idxS (j + M)], 0, a.list[i + M + s], nulV⟩ : Ch) (.int .i64 3 :: .slice pa (p ++ [idxS (j + M)]).length pc :: .int .i64 0 :: (vrow a.list[i + M + s].sc cb94 cl94 cf94 ++ vrow (zk 0) (.slice none 0 0) (.slice none 0 0) (.slice none 0 0))) := ⟨_, _, _, rfl, hp86, hr94, rep_nul⟩
        refine s_appendG (m := 1) cx ei35 Try.underlying22 rfl rfl rfl rfl rfl hr96 rfl (chA.one _ _ hcn) (by omega) ?_; intro v97 w cx hgr97 hnw97
        replace hh := hh.trans (Fz.appC cx hgr97 hnw97)
        replace hcn := (Fz.appC cx hgr97 hnw97).ch1 hcn
        refine x_next ⟨.inr (by kernel_rfl), ?_⟩
        refine x_one (i := 18) (by kernel_rfl) rfl ?_
        refine s_val rfl rfl (v_assign rfl rfl) ?_
        refine x_next ⟨.inr (by kernel_rfl), ?_⟩
        refine x_done (by kernel_rfl) ?_
        refine wp_region_lit ?_
        refine s_val rfl rfl (v_move rfl hs16) ?_
        refine s_val rfl rfl (v_addQ rfl rfl rfl (r := ((y - j + (s + 1) : Nat) : Int)) (by omega) (by omega) (by omega)) ?_
        refine s_val rfl rfl (v_assign rfl rfl) ?_
        refine wpList_nil ?_
        refine ⟨gk12 - 1, _, by omega, rfl, s + 1, v97, S ++ [⟨3, p ++ [idxS (j + M)], 0, a.list[i + M + s], nulV⟩], rs ++ [_], by omega, rfl, hs1, hs6, hs7, hs31, hs32, hs33, hs9, hs10, hs12, hs13, hs14, rfl, (hsh.snoc _).cast (by rw [gp2_succ, hge1, List.append_assoc]), LpC.of ?_ ?_ cx (hz.trans hh) (Rws.append (hh.chs hcf) ⟨hcn, trivial⟩)⟩
        · simp only [List.length_append, List.length_singleton]; omega
        · simp
      · skip
        try simp only [Bool.and_eq_true, Bool.or_eq_true, Bool.and_eq_false_iff, Bool.or_eq_false_iff, Bool.not_eq_true', Bool.not_eq_false', decide_eq_true_eq, decide_eq_false_iff_not, beq_iff_eq, beq_eq_false_iff_ne, bne_iff_ne, bne_eq_false_iff_eq, ne_eq, Classical.not_not] at hc77
        refine wp_exit ?_
        refine wp_seq ?_
        refine wp_seq ?_
        refine wp_region_lit ?_
        refine s_val rfl rfl (v_move rfl hs13) ?_
        refine s_val rfl rfl (v_assign rfl rfl) ?_
        refine wpList_nil ?_
        refine wp_block ?_
        have hsM : s = x - i - (y - j) := by omega
        subst hsM
        refine w_loop (fun k f w1 => ∃ (s : Nat) (z : Value) (S : List Ch) (rs : List (List Value)), k + s = y - j - (x - i) ∧ f 0 = z ∧ f 1 = ps ∧ f 6 = .pointer (some ⟨b6, 0, none⟩) ∧ f 7 = .pointer (some ⟨b7, 0, none⟩) ∧ f 31 = .slice (some ⟨g, 0, none⟩) PP.length c31 ∧ f 32 = .int .i64 (PP.length : Nat) ∧ f 33 = .int .i64 (t : Nat) ∧ f 9 = .int .i64 (i : Nat) ∧ f 10 = .int .i64 (j : Nat) ∧ f 12 = .pointer (some ⟨b12, 0, none⟩) ∧ f 13 = .int .i64 ((x - i : Nat) : Int) ∧ f 14 = .int .i64 ((y - j : Nat) : Int) ∧ f 17 = .int .i64 ((x - i + s : Nat) : Int) ∧ Sho n ((lstC (btw E d) p a.list b.list (PP.take t) 0 0) ++ gp1 (btw E d) p a.list b.list i j M ++ gp2 p a.list i j M (x - i - (y - j)) ++ gp3 p b.list j M s) S ∧ LpC wb wB ((b7, .cells (vrow b.sc bbs (.slice a2 b.list.length c2) bfs).toArray 33) :: (b6, .cells (vrow a.sc abs (.slice a1 a.list.length c1) afs).toArray 33) :: L) (⟨35, 29, v, n, cs⟩ :: R) ((b12, .cells ([.int .i64 (x : Int), .int .i64 (y : Int)] : List Value).toArray 43) :: ((b7, .cells (vrow b.sc bbs (.slice a2 b.list.length c2) bfs).toArray 33) :: (b6, .cells (vrow a.sc abs (.slice a1 a.list.length c1) afs).toArray 33) :: L)) R n cs S z rs w1) (y - j - (x - i)) ?_ ?_
        · skip
          exact ⟨0, z, S, rs, by omega, hs0, hs1, hs6, hs7, hs31, hs32, hs33, hs9, hs10, hs12, hs13, hs14, rfl, hsh.cast (by rw [gp3_zero, List.append_nil]), LpC.of rfl rfl cx hz hcf⟩
        intro gk16 f w hJ
        obtain ⟨s, z, S, rs, hks, hs0, hs1, hs6, hs7, hs31, hs32, hs33, hs9, hs10, hs12, hs13, hs14, hs17, hsh, cx, hz, hcf⟩ := hJ
        refine wp_seq ?_
        refine wp_seq ?_
        refine wp_region_lit ?_
        refine s_val rfl rfl (v_move rfl hs17) ?_
        refine s_val rfl rfl (v_move rfl hs14) ?_
        refine s_val rfl rfl (v_cmp rfl rfl rfl rfl) ?_
        refine wpList_nil ?_
        refine c_split rfl (fun hc101 => ?_) (fun hc101 => ?_)
        · skip
          try simp only [Bool.and_eq_true, Bool.or_eq_true, Bool.and_eq_false_iff, Bool.or_eq_false_iff, Bool.not_eq_true', Bool.not_eq_false', decide_eq_true_eq, decide_eq_false_iff_not, beq_iff_eq, beq_eq_false_iff_ne, bne_iff_ne, bne_eq_false_iff_eq, ne_eq, Classical.not_not] at hc101
          have hsM : s < y - j - (x - i) := by omega
          have hMx : M = x - i := by omega
          have hO28 := hfa2' (by omega)
          obtain rfl := hO28
          have hF2 := hsl2.inA (by omega)
          have hO29 := lst_at hz hreps2 (i := j + M + s) (by omega) hF2
          obtain ⟨r2, hr2, hv2⟩ := hO29
          replace hF2 := hz.up _ hF2
          have hge2 := getD_at (l := b.list) (i := j + M + s) (by omega)
          have hSl := hsh.1
          simp only [List.length_append, gp2_len, gp3_len] at hSl
          have hh := hz.self
          refine wp_skip ?_
          refine wp_seq ?_
          refine wp_block ?_
          refine w_ordK cx (cx.pick2 1 2 rfl rfl rfl) hh.kp mixed [(0, 104), (1, 105), (2, 106), (3, 107), (4, 108), (7, 111), (8, 112), (9, 113), (10, 114), (11, 115), (12, 116), (13, 117)] #[true, true, true, true, true, false, false, true, true, true, true, true, true, true, false, false, false, false, false] (by kernel_rfl) (by kernel_rfl) (by kernel_rfl) (by kernel_rfl) ?_
          refine pu_one rfl (wnt_none rfl) (fun w hS => by obtain ⟨cx, hkS⟩ := hS; exact v_move rfl hs0) ?_
          refine pu_one rfl (wnt_none rfl) (fun w hS => by obtain ⟨cx, hkS⟩ := hS; exact v_move rfl hs1) ?_
          refine pu_one rfl (wnt_none rfl) (fun w hS => by obtain ⟨cx, hkS⟩ := hS; exact v_move rfl hs10) ?_
          refine pu_one rfl (wnt_none rfl) (fun w hS => by obtain ⟨cx, hkS⟩ := hS; exact v_move rfl hs17) ?_
          refine pu_one rfl (wnt_none rfl) (fun w hS => by obtain ⟨cx, hkS⟩ := hS; exact v_addQ rfl rfl rfl (r := ((j + M + s : Nat) : Int)) (by omega) (by omega) (by omega)) ?_
          refine pu_one rfl (wnt_none rfl) (fun w hS => by obtain ⟨cx, hkS⟩ := hS; exact v_fa fa33_6 rfl hs7) ?_
          refine pu_one rfl (wnt_none rfl) (fun w hS => by obtain ⟨cx, hkS⟩ := hS; exact v_load1 rfl rfl Try.underlying30 rfl (cx.cell 0 rfl rfl)) ?_
          refine pu_one rfl (wnt_none rfl) (fun w hS => by obtain ⟨cx, hkS⟩ := hS; exact v_move rfl hs10) ?_
          refine pu_one rfl (wnt_none rfl) (fun w hS => by obtain ⟨cx, hkS⟩ := hS; exact v_move rfl hs17) ?_
          refine pu_one rfl (wnt_none rfl) (fun w hS => by obtain ⟨cx, hkS⟩ := hS; exact v_addQ rfl rfl rfl (r := ((j + M + s : Nat) : Int)) (by omega) (by omega) (by omega)) ?_
          refine pu_one rfl (wnt_none rfl) (fun w hS => by obtain ⟨cx, hkS⟩ := hS; exact v_ia Try.underlying30 sz33 rfl rfl rfl (by omega) (by omega)) ?_
          refine pu_one rfl (wnt_none rfl) (fun w hS => by obtain ⟨cx, hkS⟩ := hS; exact v_load rfl rfl Try.underlying33 rfl sz33 (hr2.keep (hkS _ hF2)) hv2.len) ?_
          refine pu_nil ?_; intro w cx hwD18 hkS18
          replace hh := hh.trans (Fz.belC cx hwD18)
          replace hv2 := (Fz.belC cx hwD18).rep hv2
          refine x_one (i := 5) (by kernel_rfl) rfl ?_
          refine s_fn cx (c83 (j + M + s) _) Try.func83 rfl rfl rfl rfl rfl rfl ?_; intro q109 w cx hw109 hp109
          subst hp109
          replace hh := hh.trans (Fz.belC cx hw109)
          replace hv2 := (Fz.belC cx hw109).rep hv2
          try replace hr118 := (Fz.belC cx hw109).rep hr118
          refine x_next ⟨.inl ⟨cx.pick2 1 2 rfl rfl rfl, hh.kp⟩, ?_⟩
          refine x_one (i := 6) (by kernel_rfl) rfl ?_
          have cx110 := cx
          refine s_fn cx (c81 (idxS (j + M + s)) _ p _ _ F.lt ((hz.trans hh).pth hpp) (by omega)) Try.func81 rfl rfl rfl rfl rfl rfl ?_; intro q110 w cx hw110 hp110
          replace hp110 := hp110.fr cx110 hw110.size
          replace hh := hh.trans (Fz.belC cx hw110)
          replace hv2 := (Fz.belC cx hw110).rep hv2
          try replace hr118 := (Fz.belC cx hw110).rep hr118
          refine x_next ⟨.inl ⟨cx.pick2 1 2 rfl rfl rfl, hh.kp⟩, ?_⟩
          refine x_one (i := 14) (by kernel_rfl) rfl ?_
          have cx118 := cx
          refine s_fn cx (c60 48 (b.list[j + M + s]) _ _ (deep_mono _ _ _ (deep_of_okd _ _ (hob.2.2.1 _ (List.getElem_mem _))) (by omega)) (by omega) hv2.val (hfb1.elem (List.getElem_mem _))) Try.func60 rfl rfl rfl rfl rfl rfl ?_; intro q118 w cx hw118 hp118
          have hO30 := Made.fr hp118 cx118 hw118
          obtain ⟨cb118, cl118, cf118, rfl, hr118⟩ := hO30
          replace hh := hh.trans (Fz.belC cx hw118)
          replace hv2 := (Fz.belC cx hw118).rep hv2
          try replace hp110 := (Fz.belC cx hw118).pth hp110
          refine x_next ⟨.inl ⟨cx.pick2 1 2 rfl rfl rfl, hh.kp⟩, ?_⟩
          refine x_one (i := 15) (by kernel_rfl) rfl ?_
          have hO31 := hp110.sl
          obtain ⟨pa, pc, rfl⟩ := hO31
          refine s_val rfl rfl (v_build (bd35a _ _ _ _ _ _ _) rfl rfl) ?_
          refine x_next ⟨.inl ⟨cx.pick2 1 2 rfl rfl rfl, hh.kp⟩, ?_⟩
          refine x_one (i := 16) (by kernel_rfl) rfl ?_
          refine s_bsl1 cx Try.underlying22 sz35 z35 rfl rfl rfl rfl rfl rfl rfl rfl ?_; intro b120 w cx hb120 hw120
          have hr120 : RowAt w b120 0 (.int .i64 2 :: .slice pa (p ++ [idxS (j + M + s)]).length pc :: .int .i64 0 :: (vrow (zk 0) (.slice none 0 0) (.slice none 0 0) (.slice none 0 0) ++ vrow b.list[j + M + s].sc cb118 cl118 cf118)) := cx.row 0 rfl
          replace cx := cx.tl
          replace hh := hh.trans (Fz.belC cx hw120)
          replace hr118 := (Fz.belC cx hw120).rep hr118
          replace hp110 := (Fz.belC cx hw120).pth hp110
          refine x_next ⟨.inl ⟨cx.pick2 1 2 rfl rfl rfl, hh.kp⟩, ?_⟩
          refine x_one (i := 17) (by kernel_rfl) rfl ?_
          have hcn : chA (F w _ _) w (⟨2, p ++ [idxS (j + M + s)], 0, nulV, b.list[j + M + s]⟩ : Ch) (.int .i64 2 :: .slice pa (p ++ [idxS (j + M + s)]).length pc :: .int .i64 0 :: (vrow (zk 0) (.slice none 0 0) (.slice none 0 0) (.slice none 0 0) ++ vrow b.list[j + M + s].sc cb118 cl118 cf118)) := ⟨_, _, _, rfl, hp110, rep_nul, hr118⟩
          refine s_appendG (m := 1) cx ei35 Try.underlying22 rfl rfl rfl rfl rfl hr120 rfl (chA.one _ _ hcn) (by omega) ?_; intro v121 w cx hgr121 hnw121
          replace hh := hh.trans (Fz.appC cx hgr121 hnw121)
          replace hcn := (Fz.appC cx hgr121 hnw121).ch1 hcn
          refine x_next ⟨.inr (by kernel_rfl), ?_⟩
          refine x_one (i := 18) (by kernel_rfl) rfl ?_
          refine s_val rfl rfl (v_assign rfl rfl) ?_
          refine x_next ⟨.inr (by kernel_rfl), ?_⟩
          refine x_done (by kernel_rfl) ?_
          refine wp_region_lit ?_
          refine s_val rfl rfl (v_move rfl hs17) ?_
          refine s_val rfl rfl (v_addQ rfl rfl rfl (r := ((x - i + (s + 1) : Nat) : Int)) (by omega) (by omega) (by omega)) ?_
          refine s_val rfl rfl (v_assign rfl rfl) ?_
          refine wpList_nil ?_
          refine ⟨gk16 - 1, _, by omega, rfl, s + 1, v121, S ++ [⟨2, p ++ [idxS (j + M + s)], 0, nulV, b.list[j + M + s]⟩], rs ++ [_], by omega, rfl, hs1, hs6, hs7, hs31, hs32, hs33, hs9, hs10, hs12, hs13, hs14, rfl, (hsh.snoc _).cast (by rw [gp3_succ, hge2, List.append_assoc]), LpC.of ?_ ?_ cx (hz.trans hh) (Rws.append (hh.chs hcf) ⟨hcn, trivial⟩)⟩
          · simp only [List.length_append, List.length_singleton]; omega
          · simp
        · skip
          try simp only [Bool.and_eq_true, Bool.or_eq_true, Bool.and_eq_false_iff, Bool.or_eq_false_iff, Bool.not_eq_true', Bool.not_eq_false', decide_eq_true_eq, decide_eq_false_iff_not, beq_iff_eq, beq_eq_false_iff_ne, bne_iff_ne, bne_eq_false_iff_eq, ne_eq, Classical.not_not] at hc101
          refine wp_exit ?_
          refine w_still cx mixed (by kernel_rfl) ?_; intro w cx hwD19
          skip
          refine t_val rfl rfl (v_iaR (r := 0) Try.underlying43 sz3 rfl hs12 rfl (by omega) (by omega) rfl) ?_
          refine t_val rfl rfl (v_load1 rfl rfl Try.underlying3 rfl (cx.cell 0 rfl rfl)) ?_
          refine t_val rfl rfl (v_addQ rfl rfl rfl (r := ((x + 1 : Nat) : Int)) (by omega) (by omega) (by omega)) ?_
          refine t_val rfl rfl (v_iaR (r := 1) Try.underlying43 sz3 rfl hs12 rfl (by omega) (by omega) rfl) ?_
          refine t_val rfl rfl (v_load1 rfl rfl Try.underlying3 rfl (cx.cell 0 rfl rfl)) ?_
          refine t_val rfl rfl (v_addQ rfl rfl rfl (r := ((y + 1 : Nat) : Int)) (by omega) (by omega) (by omega)) ?_
          refine t_val rfl rfl (v_assign rfl rfl) ?_
          refine t_val rfl rfl (v_assign rfl rfl) ?_
          refine t_nil ?_
          refine wp_region_lit ?_
          refine s_val rfl rfl (v_addQ rfl hs33 rfl (r := ((t + 1 : Nat) : Int)) (by omega) (by omega) (by omega)) ?_
          refine s_val rfl rfl (v_move rfl rfl) ?_
          refine wpList_nil ?_
          refine ⟨gk3 - 1, _, by omega, rfl, t + 1, z, S, rs, by omega, hs0, hs1, hs6, hs7, hs31, hs32, rfl, by rw [aft_take htl, hxy]; rfl, by rw [aft_take htl, hxy]; rfl, hsh.cast ?_, LpC.of rfl rfl cx.tl ((hz.trans (Fz.belC cx hwD19)).trans Fz.tl) (Fz.tl.chs ((Fz.belC cx hwD19).chs hcf))⟩
          rw [hlt, ← List.append_assoc, ← List.append_assoc, show s = y - j - (x - i) by omega]
  · skip
    try simp only [Bool.and_eq_true, Bool.or_eq_true, Bool.and_eq_false_iff, Bool.or_eq_false_iff, Bool.not_eq_true', Bool.not_eq_false', decide_eq_true_eq, decide_eq_false_iff_not, beq_iff_eq, beq_eq_false_iff_ne, bne_iff_ne, bne_eq_false_iff_eq, ne_eq, Classical.not_not] at hc34
    refine wp_exit ?_
    refine wp_seq ?_
    refine wp_region_lit ?_
    refine s_val rfl rfl (v_move rfl hs0) ?_
    refine s_val rfl rfl (v_assign rfl rfl) ?_
    refine wpList_nil ?_
    refine wp_ret ?_
    refine ret_tmp Try.results97 rfl ?_
    have htl : t = PP.length := by omega
    subst htl
    rw [List.take_of_length_le (Nat.le_refl _)] at hsh
    exact ⟨S, rs, hsh, (LpC.of rfl rfl cx (hzB.trans hz) hcf).drop 2⟩
end Go.Proofs.Ytmkihcdcgkdilaa
end
section
namespace Go.Proofs.Ytmkihcdcgkdilaa
open Go Go.Dk Go.RowKit
set_option linter.unusedSimpArgs false
set_option linter.unusedVariables false
attribute [local irreducible] Go.wpList Go.Code.wp Go.bodyPost Go.wpStill Go.wpQuiet
set_option maxRecDepth 10000 in
set_option maxHeartbeats 6400000 in
theorem c65 (E : V → V → Bool) (hE : ∀ x y, E x y = true ↔ canon x = canon y) : ∀ d, C65 E d := by
  intro d
  induction d with
  | zero => intro wb L R v n cs p ps a b ra rb w0 cx hpp hva hvb hoa; exact hoa.elim
  | succ d ih =>
  intro wb L R v n cs p ps a b ra rb w0 cx hpp hva hvb hoa hob hfa1 hfb1 hnar hpd hd48 hnb
  have hO1 := id (RepV.open hva)
  obtain ⟨abs, als, afs, rfl, _, hla, _⟩ := hO1
  have hO2 := id (RepV.open hvb)
  obtain ⟨bbs, bls, bfs, rfl, _, hlb, _⟩ := hO2
  have hO3 := hla.sl
  obtain ⟨la, lc, rfl⟩ := hO3
  have hO4 := hlb.sl
  obtain ⟨ma, mc, rfl⟩ := hO4
  have hO5 := cx.ownRow
  obtain ⟨va, vc, rfl, hvr⟩ := hO5
  refine ret_enter Try.func65 rfl Try.ntmps65 rfl ?_
  skip
  refine wp_seq ?_
  refine wp_region_lit ?_
  refine s_box cx rfl rfl rfl rfl rfl ?_; intro b6 w cx hb6 hw6
  refine s_box cx rfl rfl rfl rfl rfl ?_; intro b7 w cx hb7 hw7
  refine s_val rfl rfl (v_assign rfl rfl) ?_
  refine wpList_nil ?_
  refine wp_seq ?_
  refine wp_block ?_
  refine wp_seq ?_
  refine wp_region_lit ?_
  have hz : Fz w0 L (⟨35, 29, .slice va n vc, n, cs⟩ :: R) w ((b7, .cells (vrow b.sc bbs (.slice ma b.list.length mc) bfs).toArray 33) :: (b6, .cells (vrow a.sc abs (.slice la a.list.length lc) afs).toArray 33) :: L) (⟨35, 29, .slice va n vc, n, cs⟩ :: R) := (Fz.new hb6 hw6).trans (Fz.new hb7 hw7)
  refine s_val rfl rfl (v_load rfl rfl Try.underlying33 rfl sz33 (cx.row 1 rfl) rfl) ?_
  refine s_val rfl rfl (v_load rfl rfl Try.underlying33 rfl sz33 (cx.row 0 rfl) rfl) ?_
  refine s_fnB cx (c53 (d + 1) a b _ _ _ (by omega) hoa hob hfa1 hfb1 (hz.rep hva).val (hz.rep hvb).val) Try.func53 rfl rfl rfl rfl rfl rfl ?_; intro q12 w cx hw12 hp12
  replace hz := hz.trans (Fz.belC cx hw12)
  refine s_val rfl rfl (v_move rfl rfl) ?_
  refine s_gval rfl rfl rfl (by first | exact w_ff rfl | exact w_gf rfl) (fun hc => v_move rfl (by first | exact gve hc rfl | exact gve (and_l hc) rfl | exact gve (and_l (and_l hc)) rfl | rfl)) ?_
  refine s_gval rfl rfl rfl (by first | exact w_ff rfl | exact w_gf rfl) (fun hc => v_lenSlice rfl (gve hc rfl) Try.underlying22) ?_
  refine s_gval rfl rfl rfl (by first | exact w_ff rfl | exact w_gf rfl) (fun hc => v_cmp rfl (gve hc rfl) rfl rfl) ?_
  refine s_val rfl rfl (v_or rfl rfl rfl rfl) ?_
  refine s_val rfl rfl (v_assign rfl rfl) ?_
  refine wpList_nil ?_
  refine c_split rfl (fun hc9 => ?_) (fun hc9 => ?_)
  · skip
    skip
    refine wp_seq ?_
    refine wp_region_lit ?_
    refine s_val rfl rfl (v_move rfl rfl) ?_
    refine s_val rfl rfl (v_assign rfl rfl) ?_
    refine wpList_nil ?_
    refine wp_ret ?_
    refine ret_tmp Try.results65 rfl ?_
    refine ⟨[], [], ?_, (LpC.zero cx hz).drop 2⟩
    rcases Bool.or_eq_true_iff.1 hc9 with h | h
    · rw [btw_eq ((hE a b).2 (hp12.1 h))]; exact Sho.nil n
    · have h2 := of_decide_eq_true h
      exact Sho.stop (by omega)
  · skip
    skip
    have hq9 := Bool.or_eq_false_iff.1 hc9
    have hnq : E a b = false := by
      rw [Bool.eq_false_iff]
      intro h
      rw [hp12.2 ((hE a b).1 h)] at hq9; cases hq9.1
    clear hq9
    refine wp_seq ?_
    refine wp_region_lit ?_
    refine s_val rfl rfl (v_fa fa33_0 rfl rfl) ?_
    refine s_val rfl rfl (v_load1 rfl rfl Try.underlying3 rfl (cx.cell 1 rfl rfl)) ?_
    refine s_val rfl rfl (v_cmp rfl rfl rfl rfl) ?_
    refine s_val rfl rfl (v_move rfl rfl) ?_
    refine s_gval rfl rfl rfl (by first | exact w_tt rfl | exact w_gt rfl) (fun hc => v_fa fa33_0 rfl (by first | exact gve hc rfl | exact gve (and_l hc) rfl | exact gve (and_l (and_l hc)) rfl | rfl)) ?_
    refine s_gval rfl rfl rfl (by first | exact w_tt rfl | exact w_gt rfl) (fun hc => v_load1 rfl (by first | exact gve hc rfl | exact gve (and_l hc) rfl | exact gve (and_l (and_l hc)) rfl | rfl) Try.underlying3 rfl (cx.cell 0 rfl rfl)) ?_
    refine s_gval rfl rfl rfl (by first | exact w_tt rfl | exact w_gt rfl) (fun hc => v_cmp rfl (by first | exact gve hc rfl | exact gve (and_l hc) rfl | exact gve (and_l (and_l hc)) rfl | rfl) rfl rfl) ?_
    refine s_val rfl rfl (v_and rfl rfl rfl rfl) ?_
    refine s_val rfl rfl (v_assign rfl rfl) ?_
    refine wpList_nil ?_
    refine c_split rfl (fun hc19 => ?_) (fun hc19 => ?_)
    · skip
      try simp only [Bool.and_eq_true, Bool.or_eq_true, Bool.and_eq_false_iff, Bool.or_eq_false_iff, Bool.not_eq_true', Bool.not_eq_false', decide_eq_true_eq, decide_eq_false_iff_not, beq_iff_eq, beq_eq_false_iff_ne, bne_iff_ne, bne_eq_false_iff_eq, ne_eq, Classical.not_not] at hc19
      have hkk := hc19
      refine wp_seq ?_
      refine wp_region_lit ?_
      refine s_val rfl rfl (v_move rfl rfl) ?_
      refine s_val rfl rfl (v_move rfl rfl) ?_
      refine s_val rfl rfl (v_load rfl rfl Try.underlying33 rfl sz33 (cx.row 1 rfl) rfl) ?_
      refine s_val rfl rfl (v_load rfl rfl Try.underlying33 rfl sz33 (cx.row 0 rfl) rfl) ?_
      refine s_callR rfl rfl (runs_fn Try.func96 rfl rfl rfl rfl) (c96 E d ih wb _ R _ n cs p _ a b _ _ _ cx (hz.pth hpp) (hz.rep hva) (hz.rep hvb) hoa hob hfa1 hfb1 hnar hpd hd48 (by rw [btw_map hnq hkk.1 hkk.2] at hnb; exact hnb)) ?_; intro q32 w hp32
      refine s_val rfl rfl (v_assign rfl rfl) ?_
      refine wpList_nil ?_
      refine wp_ret ?_
      refine ret_tmp Try.results65 rfl ?_
      refine BtP.cast (btw_map hnq hkk.1 hkk.2) ?_
      obtain ⟨S2, rs2, hsh2, cx, hz2, hcf2⟩ := hp32
      exact ⟨S2, rs2, hsh2, (LpC.of rfl rfl cx (hz.trans hz2) hcf2).drop 2⟩
    · skip
      try simp only [Bool.and_eq_true, Bool.or_eq_true, Bool.and_eq_false_iff, Bool.or_eq_false_iff, Bool.not_eq_true', Bool.not_eq_false', decide_eq_true_eq, decide_eq_false_iff_not, beq_iff_eq, beq_eq_false_iff_ne, bne_iff_ne, bne_eq_false_iff_eq, ne_eq, Classical.not_not] at hc19
      have hnk : ¬ (a.sc.kind = 7 ∧ b.sc.kind = 7) := fun h => by
        rcases hc19 with h2 | h2
        · exact h2 h.1
        · exact h2 h.2
      refine wp_seq ?_
      refine wp_region_lit ?_
      refine s_val rfl rfl (v_fa fa33_0 rfl rfl) ?_
      refine s_val rfl rfl (v_load1 rfl rfl Try.underlying3 rfl (cx.cell 1 rfl rfl)) ?_
      refine s_val rfl rfl (v_cmp rfl rfl rfl rfl) ?_
      refine s_val rfl rfl (v_move rfl rfl) ?_
      refine s_gval rfl rfl rfl (by first | exact w_tt rfl | exact w_gt rfl) (fun hc => v_fa fa33_0 rfl (by first | exact gve hc rfl | exact gve (and_l hc) rfl | exact gve (and_l (and_l hc)) rfl | rfl)) ?_
      refine s_gval rfl rfl rfl (by first | exact w_tt rfl | exact w_gt rfl) (fun hc => v_load1 rfl (by first | exact gve hc rfl | exact gve (and_l hc) rfl | exact gve (and_l (and_l hc)) rfl | rfl) Try.underlying3 rfl (cx.cell 0 rfl rfl)) ?_
      refine s_gval rfl rfl rfl (by first | exact w_tt rfl | exact w_gt rfl) (fun hc => v_cmp rfl (by first | exact gve hc rfl | exact gve (and_l hc) rfl | exact gve (and_l (and_l hc)) rfl | rfl) rfl rfl) ?_
      refine s_val rfl rfl (v_and rfl rfl rfl rfl) ?_
      refine s_val rfl rfl (v_assign rfl rfl) ?_
      refine wpList_nil ?_
      refine c_split rfl (fun hc33 => ?_) (fun hc33 => ?_)
      · skip
        try simp only [Bool.and_eq_true, Bool.or_eq_true, Bool.and_eq_false_iff, Bool.or_eq_false_iff, Bool.not_eq_true', Bool.not_eq_false', decide_eq_true_eq, decide_eq_false_iff_not, beq_iff_eq, beq_eq_false_iff_ne, bne_iff_ne, bne_eq_false_iff_eq, ne_eq, Classical.not_not] at hc33
        have hll := hc33
        refine wp_seq ?_
        refine wp_region_lit ?_
        refine s_val rfl rfl (v_move rfl rfl) ?_
        refine s_val rfl rfl (v_move rfl rfl) ?_
        refine s_val rfl rfl (v_load rfl rfl Try.underlying33 rfl sz33 (cx.row 1 rfl) rfl) ?_
        refine s_val rfl rfl (v_load rfl rfl Try.underlying33 rfl sz33 (cx.row 0 rfl) rfl) ?_
        refine s_callR rfl rfl (runs_fn Try.func97 rfl rfl rfl rfl) (c97 E hE d ih wb _ R _ n cs p _ a b _ _ _ cx (hz.pth hpp) (hz.rep hva) (hz.rep hvb) hoa hob hfa1 hfb1 hnar hpd hd48 (by rw [btw_lst hnq hnk hll.1 hll.2] at hnb; exact hnb)) ?_; intro q46 w hp46
        refine s_val rfl rfl (v_assign rfl rfl) ?_
        refine wpList_nil ?_
        refine wp_ret ?_
        refine ret_tmp Try.results65 rfl ?_
        refine BtP.cast (btw_lst hnq hnk hll.1 hll.2) ?_
        obtain ⟨S2, rs2, hsh2, cx, hz2, hcf2⟩ := hp46
        exact ⟨S2, rs2, hsh2, (LpC.of rfl rfl cx (hz.trans hz2) hcf2).drop 2⟩
      · skip
        try simp only [Bool.and_eq_true, Bool.or_eq_true, Bool.and_eq_false_iff, Bool.or_eq_false_iff, Bool.not_eq_true', Bool.not_eq_false', decide_eq_true_eq, decide_eq_false_iff_not, beq_iff_eq, beq_eq_false_iff_ne, bne_iff_ne, bne_eq_false_iff_eq, ne_eq, Classical.not_not] at hc33
        have hnl : ¬ (a.sc.kind = 6 ∧ b.sc.kind = 6) := fun h => by
          rcases hc33 with h2 | h2
          · exact h2 h.1
          · exact h2 h.2
        have hh := hz.self
        have hn1 : n + 1 ≤ 1048576 := by rw [btw_rep hnq hnk hnl] at hnb; exact hnb
        refine wp_skip ?_
        refine wp_seq ?_
        refine w_ord cx (cx.pick2 1 0 rfl rfl rfl) mixed [(0, 47), (1, 48), (3, 50), (5, 52)] #[true, true, false, true, false, true, false, false, false, false, false] (by kernel_rfl) (by kernel_rfl) (by kernel_rfl) (by kernel_rfl) ?_
        refine pu_one rfl (wnt_none rfl) (fun w cx => v_move rfl rfl) ?_
        refine pu_one rfl (wnt_none rfl) (fun w cx => v_move rfl rfl) ?_
        refine pu_one rfl (wnt_none rfl) (fun w cx => v_load rfl rfl Try.underlying33 rfl sz33 (cx.row 0 rfl) rfl) ?_
        refine pu_one rfl (wnt_none rfl) (fun w cx => v_load rfl rfl Try.underlying33 rfl sz33 (cx.row 1 rfl) rfl) ?_
        refine pu_nil ?_; intro w cx hwD7
        replace hh := hh.trans (Fz.belC cx hwD7)
        refine x_one (i := 2) (by kernel_rfl) rfl ?_
        have cx49 := cx
        refine s_fn cx (c84 _ p [] _ _ _ F.lt ((hz.trans hh).pth hpp) PthA.nil (by simp only [List.length_nil]; omega)) Try.func84 rfl rfl rfl rfl rfl rfl ?_; intro q49 w cx hw49 hp49
        replace hp49 := hp49.fr cx49 hw49.size
        rw [List.append_nil] at hp49
        replace hh := hh.trans (Fz.belC cx hw49)
        try replace hr51 := (Fz.belC cx hw49).rep hr51
        try replace hr53 := (Fz.belC cx hw49).rep hr53
        refine x_next ⟨.inl (cx.pick2 1 0 rfl rfl rfl), ?_⟩
        refine x_one (i := 4) (by kernel_rfl) rfl ?_
        have cx51 := cx
        refine s_fn cx (c60 48 (a) _ _ (deep_mono _ _ _ (deep_of_okd _ _ (hoa)) (by omega)) (by omega) ((hz.trans hh).rep hva).val (hfa1)) Try.func60 rfl rfl rfl rfl rfl rfl ?_; intro q51 w cx hw51 hp51
        have hO6 := Made.fr hp51 cx51 hw51
        obtain ⟨cb51, cl51, cf51, rfl, hr51⟩ := hO6
        replace hh := hh.trans (Fz.belC cx hw51)
        try replace hp49 := (Fz.belC cx hw51).pth hp49
        try replace hr53 := (Fz.belC cx hw51).rep hr53
        refine x_next ⟨.inl (cx.pick2 1 0 rfl rfl rfl), ?_⟩
        refine x_one (i := 6) (by kernel_rfl) rfl ?_
        have cx53 := cx
        refine s_fn cx (c60 48 (b) _ _ (deep_mono _ _ _ (deep_of_okd _ _ (hob)) (by omega)) (by omega) ((hz.trans hh).rep hvb).val (hfb1)) Try.func60 rfl rfl rfl rfl rfl rfl ?_; intro q53 w cx hw53 hp53
        have hO7 := Made.fr hp53 cx53 hw53
        obtain ⟨cb53, cl53, cf53, rfl, hr53⟩ := hO7
        replace hh := hh.trans (Fz.belC cx hw53)
        try replace hp49 := (Fz.belC cx hw53).pth hp49
        try replace hr51 := (Fz.belC cx hw53).rep hr51
        refine x_next ⟨.inl (cx.pick2 1 0 rfl rfl rfl), ?_⟩
        refine x_one (i := 7) (by kernel_rfl) rfl ?_
        have hO8 := hp49.sl
        obtain ⟨pa, pc, rfl⟩ := hO8
        refine s_val rfl rfl (v_build (bd35c _ _ _ _ _ _ _ _ _ _ _) rfl rfl) ?_
        refine x_next ⟨.inl (cx.pick2 1 0 rfl rfl rfl), ?_⟩
        refine x_one (i := 8) (by kernel_rfl) rfl ?_
        refine s_bsl1 cx Try.underlying22 sz35 z35 rfl rfl rfl rfl rfl rfl rfl rfl ?_; intro b55 w cx hb55 hw55
        have hr55 : RowAt w b55 0 (.int .i64 1 :: .slice pa p.length pc :: .int .i64 0 :: (vrow a.sc cb51 cl51 cf51 ++ vrow b.sc cb53 cl53 cf53)) := cx.row 0 rfl
        replace cx := cx.tl
        replace hh := hh.trans (Fz.belC cx hw55)
        replace hp49 := (Fz.belC cx hw55).pth hp49
        replace hr51 := (Fz.belC cx hw55).rep hr51
        replace hr53 := (Fz.belC cx hw55).rep hr53
        refine x_next ⟨.inl (cx.pick2 1 0 rfl rfl rfl), ?_⟩
        refine x_one (i := 9) (by kernel_rfl) rfl ?_
        have hcn : chA (F w _ _) w (⟨1, p, 0, a, b⟩ : Ch) (.int .i64 1 :: .slice pa p.length pc :: .int .i64 0 :: (vrow a.sc cb51 cl51 cf51 ++ vrow b.sc cb53 cl53 cf53)) := ⟨_, _, _, rfl, hp49, hr51, hr53⟩
        refine s_appendG (m := 1) cx ei35 Try.underlying22 rfl rfl rfl rfl rfl hr55 rfl (chA.one _ _ hcn) (by omega) ?_; intro v56 w cx hgr56 hnw56
        replace hh := hh.trans (Fz.appC cx hgr56 hnw56)
        replace hcn := (Fz.appC cx hgr56 hnw56).ch1 hcn
        refine x_next ⟨.inr (by kernel_rfl), ?_⟩
        refine x_one (i := 10) (by kernel_rfl) rfl ?_
        refine s_val rfl rfl (v_assign rfl rfl) ?_
        refine x_next ⟨.inr (by kernel_rfl), ?_⟩
        refine x_done (by kernel_rfl) ?_
        refine wp_ret ?_
        refine ret_tmp Try.results65 rfl ?_
        refine BtP.cast (btw_rep hnq hnk hnl) ?_
        exact ⟨[⟨1, p, 0, a, b⟩], [.int .i64 1 :: .slice pa p.length pc :: .int .i64 0 :: (vrow a.sc cb51 cl51 cf51 ++ vrow b.sc cb53 cl53 cf53)], Sho.refl _ _, (LpC.of (S := [⟨1, p, 0, a, b⟩]) (rs := [.int .i64 1 :: .slice pa p.length pc :: .int .i64 0 :: (vrow a.sc cb51 cl51 cf51 ++ vrow b.sc cb53 cl53 cf53)]) rfl (by simp) cx (hz.trans hh) ⟨hcn, trivial⟩).drop 2⟩
end Go.Proofs.Ytmkihcdcgkdilaa
end
section
namespace Go.Proofs.Ytmkihcdcgkdilaa
open Go Go.Dk Go.RowKit
open Rows (uptoBulk uptoBulkAll)
set_option linter.unusedSimpArgs false

theorem szd_mono {N N' : Nat} (h : N ≤ N') : ∀ (d : Nat) (v : V), szd N d v → szd N' d v
  | 0, _, _ => trivial
  | d + 1, v, hv => by
    obtain ⟨h1, h2, h3, h4, h5, h6, h7⟩ := hv
    exact ⟨by omega, by omega, by omega, by omega, by omega, fun x hx => szd_mono h d x (h6 x hx), fun x hx => ⟨by have := (h7 x hx).1; omega, szd_mono h d x.2 (h7 x hx).2⟩⟩

section
variable {H : Type}
theorem bulk_one (d : DataW H) : 1 ≤ uptoBulk d := by
  cases d with
  | lit l => cases l <;> simp [uptoBulk]
  | _ => simp [uptoBulk]
theorem bulk_part {d : DataW H} {l : List (DataW H)} (h : d ∈ l) : uptoBulk d ≤ uptoBulkAll l := by
  induction l with
  | nil => cases h
  | cons x r ih =>
    simp only [uptoBulkAll]
    cases List.mem_cons.1 h with
    | inl e => subst e; omega
    | inr e => have := ih e; omega
theorem bulk_length (l : List (DataW H)) : l.length ≤ uptoBulkAll l := by
  induction l with
  | nil => simp [uptoBulkAll]
  | cons x r ih => have := bulk_one x; simp only [uptoBulkAll, List.length_cons]; omega

theorem cells_row {w : World} {base n : Nat} {a : Addr} {cs : List Value} (h : w.cells? base a n = some cs) : cs.length = n ∧ ∀ i x, cs[i]? = some x → w.cell? (a.add i) = some x := by
  unfold World.cells? at h
  split at h
  · have hl := mapM_some_length h
    simp only [List.length_range] at hl
    refine ⟨hl, fun i x hx => ?_⟩
    have hi : i < n := by have := (List.getElem?_eq_some_iff.1 hx).1; omega
    have := mapM_some_get h i i (by simp [hi])
    rw [this]; exact hx
  · cases h
theorem add_add (a : Addr) (h : a.spot = none) (i j : Nat) : (a.add i).add j = ⟨a.block, a.off + i + j, none⟩ := by
  obtain ⟨b, o, sp⟩ := a
  simp only at h
  subst h
  rw [add_addr, add_addr]

variable {enc : TypeId × Value → H} {w : World} {base : Nat} {spare : Nat → Bool} {held : Bool}
/-- the elements of a slice, one by one -/
theorem rd_slice {t e k n : Nat} {cs : List Value} {x : DataW H × List MemPlace} (ht : Try.prog.underlying t = some (.slice e)) (hk : Try.prog.cellsOf e = k) (hk0 : 0 < k) (h : DataW.trod enc Try.prog w base spare held (n + 1) t cs = some x) :
    ∃ s len b o, cs = [s] ∧ SliceAt (fun b => b < w.heap.size) s len b o ∧ len + 1 ≤ uptoBulk x.1 + 1 ∧
      ∀ i, i < len → ∃ r y, r.length = k ∧ RowAt w b (o + i * k) r ∧ DataW.trod enc Try.prog w base spare held n e r = some y ∧ uptoBulk y.1 + 1 ≤ uptoBulk x.1 := by
  rcases DataW.trod_slice ht h with ⟨rfl, rfl⟩ | ⟨a, len, cap, elems, rest, n', hn, rfl, rfl, hb, hl, hm, hlen, hel, _, _⟩
  · exact ⟨_, 0, 0, 0, rfl, .inl ⟨rfl, rfl⟩, by omega, fun i hi => by omega⟩
  · obtain rfl : n = n' := by omega
    have hb1 : uptoBulkAll (elems.map (·.1)) + 1 ≤ uptoBulk (DataW.slice (elems.map (·.1)) (rest.map (·.1))) := by simp only [uptoBulk]; omega
    have hb2 := bulk_length (elems.map (·.1))
    simp only [List.length_map] at hb2
    have key : ∀ i, i < len → ∃ r y, r.length = k ∧ (∀ j x, r[j]? = some x → w.cell? ((a.add (i * k)).add j) = some x) ∧ DataW.trod enc Try.prog w base spare held n e r = some y ∧ y ∈ elems := by
      intro i hi
      have h1 := hel i hi
      rw [hk] at h1
      have hi' : i < elems.length := by omega
      rw [List.getElem?_eq_getElem hi'] at h1
      cases hc : w.cells? base (a.add (i * k)) k with
      | none => rw [hc] at h1; cases h1
      | some r =>
        rw [hc] at h1
        obtain ⟨h2, h3⟩ := cells_row hc
        exact ⟨r, elems[i], h2, h3, h1, List.getElem_mem _⟩
    have hspot : 0 < len → a.spot = none := by
      intro h0
      obtain ⟨r, y, h1, h2, _⟩ := key 0 h0
      have hr : r[0]? = some r[0] := List.getElem?_eq_getElem (by omega)
      have := World.cell?_spot (h2 0 _ hr)
      simpa [Addr.add] using this
    have hblk : 0 < len → a.block < w.heap.size := by
      intro h0
      obtain ⟨r, y, h1, h2, _⟩ := key 0 h0
      have hr : r[0]? = some r[0] := List.getElem?_eq_getElem (by omega)
      have := block_lt_of_cell (h2 0 _ hr)
      simpa [Addr.add] using this
    refine ⟨_, len, a.block, a.off, rfl, .inr ⟨a, cap, rfl, hl, fun h0 => ⟨?_, hblk h0⟩⟩, by dsimp only; omega, ?_⟩
    · have := hspot h0
      obtain ⟨b, o, sp⟩ := a
      simp only at this
      subst this
      rfl
    · intro i hi
      obtain ⟨r, y, h1, h2, h3, h4⟩ := key i hi
      refine ⟨r, y, h1, fun j x hj => ?_, h3, ?_⟩
      · have := h2 j x hj
        rwa [add_add a (hspot (by omega))] at this
      · have := bulk_part (List.mem_map.2 ⟨y, h4, rfl⟩ : y.1 ∈ elems.map (·.1))
        dsimp only
        omega

theorem cellsOf_of {t k : Nat} (h : (Try.prog.info? t).map (·.size) = some k) : Try.prog.cellsOf t = k := by unfold Program.cellsOf; rw [h]; rfl

/-- a struct's parts -/
theorem rd_struct {t k n : Nat} {fs : Array Field} {cs : List Value} {x : DataW H × List MemPlace} (ht : Try.prog.underlying t = some (.struct fs)) (hk : Try.prog.cellsOf t = k) (h : DataW.trod enc Try.prog w base spare held (n + 1) t cs = some x) :
    cs.length = k ∧ ∀ (i ty off m : Nat), (fs[i]?.map fun f => (f.type, f.offset)) = some (ty, off) → Try.prog.cellsOf ty = m → ∃ y, DataW.trod enc Try.prog w base spare held n ty ((cs.drop off).take m) = some y ∧ uptoBulk y.1 + 1 ≤ uptoBulk x.1 := by
  obtain ⟨xs, n', hn, rfl, hl, hlen, hf⟩ := DataW.trod_struct ht h
  obtain rfl : n = n' := by omega
  refine ⟨hl.trans hk, fun i ty off m hfi hm => ?_⟩
  cases hfi' : fs[i]? with
  | none => rw [hfi'] at hfi; cases hfi
  | some f =>
  rw [hfi'] at hfi
  simp only [Option.map_some, Option.some.injEq, Prod.mk.injEq] at hfi
  obtain ⟨rfl, rfl⟩ := hfi
  subst hm
  have hi : i < xs.length := by rw [hlen]; exact (Array.getElem?_eq_some_iff.1 hfi').1
  have h1 := hf i f hfi'
  rw [List.getElem?_eq_getElem hi] at h1
  refine ⟨xs[i], h1, ?_⟩
  have := bulk_part (List.mem_map.2 ⟨xs[i], List.getElem_mem _, rfl⟩ : xs[i].1 ∈ xs.map (·.1))
  simp only [uptoBulk]
  omega
theorem rd_int {t n : Nat} {k : IntKind} {cs : List Value} {x : DataW H × List MemPlace} (ht : Try.prog.underlying t = some (.int k)) (h : DataW.trod enc Try.prog w base spare held n t cs = some x) : ∃ m, cs = [.int k m] := by
  obtain ⟨m, h1, _⟩ := DataW.trod_int ht h; exact ⟨m, h1⟩
theorem rd_bool {t n : Nat} {cs : List Value} {x : DataW H × List MemPlace} (ht : Try.prog.underlying t = some .bool) (h : DataW.trod enc Try.prog w base spare held n t cs = some x) : ∃ m, cs = [.bool m] := by
  obtain ⟨m, h1, _⟩ := DataW.trod_bool ht h; exact ⟨m, h1⟩
theorem rd_string {t n : Nat} {cs : List Value} {x : DataW H × List MemPlace} (ht : Try.prog.underlying t = some .string) (h : DataW.trod enc Try.prog w base spare held n t cs = some x) : ∃ s : ByteArray, cs = [.string s] ∧ s.size + 1 ≤ uptoBulk x.1 := by
  obtain ⟨s, h1, rfl, _⟩ := DataW.trod_string ht h
  refine ⟨s, h1, ?_⟩
  simp only [uptoBulk, Array.length_toList]
  exact Nat.le_refl _

theorem RepLs_of {A : Nat → Prop} {w : World} {b : Nat} : ∀ (l : List V) (o : Nat), (∀ i v, l[i]? = some v → ∃ r, RowAt w b (o + i * 13) r ∧ RepV A w v r) → RepLs A w b o l
  | [], _, _ => trivial
  | v :: l, o, h => by
    simp only [RepLs]
    refine ⟨by simpa using h 0 v rfl, RepLs_of l (o + 13) fun i u hu => ?_⟩
    have := h (i + 1) u (by simpa using hu)
    rwa [show o + (i + 1) * 13 = o + 13 + i * 13 by omega] at this
theorem RepFs_of {A : Nat → Prop} {w : World} {b : Nat} : ∀ (l : List (ByteArray × V)) (o : Nat), (∀ i kv, l[i]? = some kv → ∃ r, RowAt w b (o + i * 14) (.string kv.1 :: r) ∧ RepV A w kv.2 r) → RepFs A w b o l
  | [], _, _ => trivial
  | (k, v) :: l, o, h => by
    simp only [RepFs, RepP]
    refine ⟨by simpa using h 0 (k, v) rfl, RepFs_of l (o + 14) fun i u hu => ?_⟩
    have := h (i + 1) u (by simpa using hu)
    rwa [show o + (i + 1) * 14 = o + 14 + i * 14 by omega] at this
/-- one for each index: a list of them -/
theorem list_of {α : Type} {p : Nat → α → Prop} (n : Nat) (h : ∀ i, i < n → ∃ a, p i a) : ∃ l : List α, l.length = n ∧ ∀ i a, l[i]? = some a → p i a := by
  induction n with
  | zero => exact ⟨[], rfl, fun i a ha => by simp at ha⟩
  | succ n ih =>
    obtain ⟨l, hl, hp⟩ := ih fun i hi => h i (by omega)
    obtain ⟨a, ha⟩ := h n (by omega)
    refine ⟨l ++ [a], by simp [hl], fun i b hb => ?_⟩
    rcases Nat.lt_or_ge i n with hi | hi
    · rw [List.getElem?_append_left (by omega)] at hb; exact hp i b hb
    · rw [List.getElem?_append_right (by omega)] at hb
      have : i = n := by
        rcases Nat.eq_zero_or_pos (i - l.length) with h0 | h0
        · omega
        · rw [List.getElem?_eq_none (by simp; omega)] at hb; cases hb
      subst this
      rw [hl, Nat.sub_self] at hb
      simp at hb
      subst hb
      exact ha

theorem cells13 {l : List Value} (h : l.length = 13) : ∃ c0 c1 c2 c3 c4 c5 c6 c7 c8 c9 c10 c11 c12, l = [c0, c1, c2, c3, c4, c5, c6, c7, c8, c9, c10, c11, c12] := by
  match l, h with
  | [c0, c1, c2, c3, c4, c5, c6, c7, c8, c9, c10, c11, c12], _ => exact ⟨_, _, _, _, _, _, _, _, _, _, _, _, _, rfl⟩
theorem cells3 {l : List Value} (h : l.length = 3) : ∃ c0 c1 c2, l = [c0, c1, c2] := by
  match l, h with
  | [c0, c1, c2], _ => exact ⟨_, _, _, rfl⟩
theorem cells29 {l : List Value} (h : l.length = 29) : ∃ c0 c1 c2 r, l = c0 :: c1 :: c2 :: r ∧ r.length = 26 := by
  match l, h with
  | c0 :: c1 :: c2 :: r, h => exact ⟨_, _, _, _, rfl, by simpa using h⟩
theorem cells14 {l : List Value} (h : l.length = 14) : ∃ c0 r, l = c0 :: r ∧ r.length = 13 := by
  match l, h with
  | c0 :: r, h => exact ⟨_, _, rfl, by simpa using h⟩
/-- bytes -/
theorem rd_bytes {t n : Nat} {cs : List Value} {x : DataW H × List MemPlace} (ht : Try.prog.underlying t = some (.slice 5)) (h : DataW.trod enc Try.prog w base spare held n t cs = some x) :
    ∃ s l, cs = [s] ∧ RepB (fun b => b < w.heap.size) w s l ∧ l.length ≤ uptoBulk x.1 := by
  cases n with
  | zero => simp [DataW.trod] at h
  | succ n =>
  obtain ⟨s, len, b, o, rfl, hs, hb, hel⟩ := rd_slice ht (cellsOf_of sz5) (by omega) h
  obtain ⟨l, hl, hp⟩ := list_of (p := fun i (u : UInt8) => w.cell? ⟨b, o + i, none⟩ = some (byteVal u)) len fun i hi => by
    obtain ⟨r, y, hr, h1, h2, _⟩ := hel i hi
    obtain ⟨m, rfl⟩ := rd_int Try.underlying5 h2
    obtain ⟨m', e, _, hm⟩ := DataW.trod_int Try.underlying5 h2
    have := h1 0 _ rfl
    rw [Nat.mul_one, Nat.add_zero] at this
    obtain ⟨u, hu⟩ : ∃ u : UInt8, Value.int .u8 m = byteVal u := by
      refine ⟨UInt8.ofNat m.toNat, ?_⟩
      simp only [List.cons.injEq, Value.int.injEq, true_and, and_true] at e
      subst e
      simp only [Lit.wf, IntKind.min, IntKind.max, Bool.and_eq_true, decide_eq_true_eq] at hm
      simp only [byteVal]
      have h0 : 0 ≤ m := by have := hm.1; simpa [IntKind.signed] using this
      have h1 : m ≤ 255 := by have := hm.2; simpa [IntKind.signed, IntKind.bits] using this
      rw [UInt8.toNat_ofNat_of_lt' (by show m.toNat < 256; omega), Int.toNat_of_nonneg h0]
    exact ⟨u, by rw [this, hu]⟩
  subst hl
  refine ⟨s, l, rfl, ⟨b, o, hs, fun i y hy => ?_⟩, by omega⟩
  rw [List.getElem?_map] at hy
  cases hu : l[i]? with
  | none => rw [hu] at hy; cases hy
  | some u =>
    rw [hu] at hy
    simp only [Option.map_some, Option.some.injEq] at hy
    rw [hp i u hu, hy]

/-- a value: its cells hold one, and all in it is of a size within the bulk -/
def Has (w : World) (cs : List Value) (N : Nat) : Prop := ∃ v, Val w v cs ∧ ∀ d, szd N d v
theorem rd33 : ∀ (n : Nat) (cs : List Value) (x : DataW H × List MemPlace), DataW.trod enc Try.prog w base spare held n 33 cs = some x → Has w cs (uptoBulk x.1) := by
  intro n
  induction n using Nat.strongRecOn with
  | _ n ih =>
  intro cs x h
  cases n with
  | zero => simp [DataW.trod] at h
  | succ n =>
  obtain ⟨hl, hf⟩ := rd_struct Try.underlying33 (cellsOf_of sz33) h
  obtain ⟨c0, c1, c2, c3, c4, c5, c6, c7, c8, c9, c10, c11, c12, rfl⟩ := cells13 hl
  obtain ⟨y0, t0, _⟩ := hf 0 3 0 1 rfl (cellsOf_of sz3)
  obtain ⟨y1, t1, _⟩ := hf 1 4 1 1 rfl (cellsOf_of sz4)
  obtain ⟨y2, t2, u2⟩ := hf 2 26 2 3 rfl (cellsOf_of sz26)
  obtain ⟨y3, t3, _⟩ := hf 3 28 5 4 rfl (cellsOf_of sz28)
  obtain ⟨y4, t4, u4⟩ := hf 4 9 9 1 rfl (cellsOf_of sz9)
  obtain ⟨y5, t5, u5⟩ := hf 5 29 10 1 rfl (cellsOf_of sz29)
  obtain ⟨y6, t6, u6⟩ := hf 6 30 11 1 rfl (cellsOf_of sz30)
  obtain ⟨y7, t7, u7⟩ := hf 7 31 12 1 rfl (cellsOf_of sz31)
  simp only [List.drop_succ_cons, List.drop_zero, List.take_succ_cons, List.take_zero] at t0 t1 t2 t3 t4 t5 t6 t7
  cases n with
  | zero => simp [DataW.trod] at t0
  | succ n =>
  obtain ⟨k, e0⟩ := rd_int Try.underlying3 t0
  obtain ⟨bo, e1⟩ := rd_bool Try.underlying4 t1
  obtain ⟨tx, e4, z4⟩ := rd_string Try.underlying9 t4
  simp only [List.cons.injEq, and_true] at e0 e1 e4
  subst e0 e1 e4
  obtain ⟨_, hn⟩ := rd_struct Try.underlying26 (cellsOf_of sz26) t2
  obtain ⟨n0, p0, _⟩ := hn 0 4 0 1 rfl (cellsOf_of sz4)
  obtain ⟨n1, p1, v1⟩ := hn 1 9 1 1 rfl (cellsOf_of sz9)
  obtain ⟨n2, p2, _⟩ := hn 2 3 2 1 rfl (cellsOf_of sz3)
  obtain ⟨_, ht⟩ := rd_struct Try.underlying28 (cellsOf_of sz28) t3
  obtain ⟨m0, q0, _⟩ := ht 0 3 0 1 rfl (cellsOf_of sz3)
  obtain ⟨m1, q1, _⟩ := ht 1 3 1 1 rfl (cellsOf_of sz3)
  obtain ⟨m2, q2, _⟩ := ht 2 3 2 1 rfl (cellsOf_of sz3)
  obtain ⟨m3, q3, _⟩ := ht 3 3 3 1 rfl (cellsOf_of sz3)
  simp only [List.drop_succ_cons, List.drop_zero, List.take_succ_cons, List.take_zero] at p0 p1 p2 q0 q1 q2 q3
  obtain ⟨neg, e⟩ := rd_bool Try.underlying4 p0
  simp only [List.cons.injEq, and_true] at e; subst e
  obtain ⟨dig, e, zd⟩ := rd_string Try.underlying9 p1
  simp only [List.cons.injEq, and_true] at e; subst e
  obtain ⟨ex, e⟩ := rd_int Try.underlying3 p2
  simp only [List.cons.injEq, and_true] at e; subst e
  obtain ⟨tk, e⟩ := rd_int Try.underlying3 q0
  simp only [List.cons.injEq, and_true] at e; subst e
  obtain ⟨td, e⟩ := rd_int Try.underlying3 q1
  simp only [List.cons.injEq, and_true] at e; subst e
  obtain ⟨tn, e⟩ := rd_int Try.underlying3 q2
  simp only [List.cons.injEq, and_true] at e; subst e
  obtain ⟨tz, e⟩ := rd_int Try.underlying3 q3
  simp only [List.cons.injEq, and_true] at e; subst e
  obtain ⟨bs, bl, e, hB, zB⟩ := rd_bytes Try.underlying29 t5
  simp only [List.cons.injEq, and_true] at e; subst e
  obtain ⟨ls, ll, b6, o6, e, s6, z6, g6⟩ := rd_slice Try.underlying30 (cellsOf_of sz33) (by omega) t6
  simp only [List.cons.injEq, and_true] at e; subst e
  obtain ⟨fs, fl, b7, o7, e, s7, z7, g7⟩ := rd_slice Try.underlying31 (cellsOf_of sz77) (by omega) t7
  simp only [List.cons.injEq, and_true] at e; subst e
  obtain ⟨L, hL, pL⟩ := list_of (p := fun i (v : V) => (∃ r, RowAt w b6 (o6 + i * 13) r ∧ Val w v r) ∧ ∀ d, szd (uptoBulk x.1) d v) ll fun i hi => by
    obtain ⟨r, y, _, h1, h2, h3⟩ := g6 i hi
    obtain ⟨v, h4, h5⟩ := ih n (by omega) r y h2
    exact ⟨v, ⟨r, h1, h4⟩, fun d => szd_mono (by omega) d v (h5 d)⟩
  obtain ⟨F, hF, pF⟩ := list_of (p := fun i (kv : ByteArray × V) => (∃ r, RowAt w b7 (o7 + i * 14) (.string kv.1 :: r) ∧ Val w kv.2 r) ∧ kv.1.size ≤ uptoBulk x.1 ∧ ∀ d, szd (uptoBulk x.1) d kv.2) fl fun i hi => by
    obtain ⟨r, y, hr, h1, h2, h3⟩ := g7 i hi
    cases n with
    | zero => simp [DataW.trod] at h2
    | succ n =>
    obtain ⟨hl, hg⟩ := rd_struct Try.underlying77 (cellsOf_of sz77) h2
    obtain ⟨c, r', rfl, hl'⟩ := cells14 hl
    obtain ⟨y0, a0, b0⟩ := hg 0 9 0 1 rfl (cellsOf_of sz9)
    obtain ⟨y1, a1, b1⟩ := hg 1 33 1 13 rfl (cellsOf_of sz33)
    simp only [List.drop_succ_cons, List.drop_zero, List.take_succ_cons, List.take_zero] at a0 a1
    rw [List.take_of_length_le (by omega)] at a1
    obtain ⟨key, e, zk⟩ := rd_string Try.underlying9 a0
    simp only [List.cons.injEq, and_true] at e; subst e
    obtain ⟨v, h4, h5⟩ := ih n (by omega) r' y1 a1
    exact ⟨(key, v), ⟨r', h1, h4⟩, by dsimp only; omega, fun d => szd_mono (by omega) d v (h5 d)⟩
  refine ⟨.mk ⟨k, bo, neg, dig, ex, tk, td, tn, tz, tx⟩ bl L F, RepV.mk (v := .mk ⟨k, bo, neg, dig, ex, tk, td, tn, tz, tx⟩ bl L F) hB ⟨b6, o6, by subst hL; exact s6, RepLs_of L o6 fun i v hv => (pL i v hv).1⟩ ⟨b7, o7, by subst hF; exact s7, RepFs_of F o7 fun i v hv => (pF i v hv).1⟩, fun d => ?_⟩
  cases d with
  | zero => trivial
  | succ d =>
    refine ⟨by simp only [V.sc]; omega, by simp only [V.sc]; omega, by simp only [V.bytes]; omega, by simp only [V.list]; omega, by simp only [V.fields]; omega, fun v hv => ?_, fun kv hv => ?_⟩
    · obtain ⟨i, hi⟩ := List.getElem?_of_mem hv
      exact (pL i v hi).2 d
    · obtain ⟨i, hi⟩ := List.getElem?_of_mem hv
      exact ⟨(pF i kv hi).2.1, (pF i kv hi).2.2 d⟩

/-- a path -/
theorem rd24 {n : Nat} {cs : List Value} {x : DataW H × List MemPlace} (h : DataW.trod enc Try.prog w base spare held n 24 cs = some x) : ∃ s l, cs = [s] ∧ Pth w s l := by
  cases n with
  | zero => simp [DataW.trod] at h
  | succ n =>
  obtain ⟨s, len, b, o, rfl, hs, hb, hel⟩ := rd_slice Try.underlying24 (cellsOf_of sz112) (by omega) h
  obtain ⟨l, hl, hp⟩ := list_of (p := fun i (u : Stp) => RowAt w b (o + i * 3) (srow u)) len fun i hi => by
    obtain ⟨r, y, hr, h1, h2, _⟩ := hel i hi
    cases n with
    | zero => simp [DataW.trod] at h2
    | succ n =>
    obtain ⟨hl, hg⟩ := rd_struct Try.underlying112 (cellsOf_of sz112) h2
    obtain ⟨r0, r1, r2, rfl⟩ := cells3 hl
    obtain ⟨y0, a0, _⟩ := hg 0 4 0 1 rfl (cellsOf_of sz4)
    obtain ⟨y1, a1, _⟩ := hg 1 9 1 1 rfl (cellsOf_of sz9)
    obtain ⟨y2, a2, _⟩ := hg 2 3 2 1 rfl (cellsOf_of sz3)
    simp only [List.drop_succ_cons, List.drop_zero, List.take_succ_cons, List.take_zero] at a0 a1 a2
    obtain ⟨v0, e⟩ := rd_bool Try.underlying4 a0
    simp only [List.cons.injEq, and_true] at e; subst e
    obtain ⟨v1, e, _⟩ := rd_string Try.underlying9 a1
    simp only [List.cons.injEq, and_true] at e; subst e
    obtain ⟨v2, e⟩ := rd_int Try.underlying3 a2
    simp only [List.cons.injEq, and_true] at e; subst e
    exact ⟨⟨v0, v1, v2⟩, h1⟩
  subst hl
  exact ⟨s, l, rfl, b, o, hs, hp⟩

/-- a list of changes -/
theorem rd22 {n : Nat} {cs : List Value} {x : DataW H × List MemPlace} (h : DataW.trod enc Try.prog w base spare held n 22 cs = some x) (hN : uptoBulk x.1 ≤ 1048576) :
    ∃ s l, cs = [s] ∧ Chs w s l ∧ l.length ≤ 1048576 ∧ ∀ c ∈ l, Fine c.old ∧ Fine c.new := by
  cases n with
  | zero => simp [DataW.trod] at h
  | succ n =>
  obtain ⟨s, len, b, o, rfl, hs, hb, hel⟩ := rd_slice Try.underlying22 (cellsOf_of sz35) (by omega) h
  obtain ⟨l, hl, hp⟩ := list_of (p := fun i (c : Ch) => (∃ r, RowAt w b (o + i * 29) r ∧ Chg w c r) ∧ Fine c.old ∧ Fine c.new) len fun i hi => by
    obtain ⟨r, y, hr, h1, h2, h3⟩ := hel i hi
    cases n with
    | zero => simp [DataW.trod] at h2
    | succ n =>
    obtain ⟨hl, hg⟩ := rd_struct Try.underlying35 (cellsOf_of sz35) h2
    obtain ⟨r0, r1, r2, r', rfl, hl'⟩ := cells29 hl
    obtain ⟨y0, a0, _⟩ := hg 0 3 0 1 rfl (cellsOf_of sz3)
    obtain ⟨y1, a1, _⟩ := hg 1 24 1 1 rfl (cellsOf_of sz24)
    obtain ⟨y2, a2, _⟩ := hg 2 3 2 1 rfl (cellsOf_of sz3)
    obtain ⟨y3, a3, u3⟩ := hg 3 33 3 13 rfl (cellsOf_of sz33)
    obtain ⟨y4, a4, u4⟩ := hg 4 33 16 13 rfl (cellsOf_of sz33)
    simp only [List.drop_succ_cons, List.drop_zero, List.take_succ_cons, List.take_zero] at a0 a1 a2 a3 a4
    rw [List.take_of_length_le (l := List.drop 13 r') (by simp; omega)] at a4
    obtain ⟨op, e⟩ := rd_int Try.underlying3 a0
    simp only [List.cons.injEq, and_true] at e; subst e
    obtain ⟨ps, pl, e, hp⟩ := rd24 a1
    simp only [List.cons.injEq, and_true] at e; subst e
    obtain ⟨pos, e⟩ := rd_int Try.underlying3 a2
    simp only [List.cons.injEq, and_true] at e; subst e
    obtain ⟨v3, w3, z3⟩ := rd33 _ _ _ a3
    obtain ⟨v4, w4, z4⟩ := rd33 _ _ _ a4
    exact ⟨⟨op, pl, pos, v3, v4⟩, ⟨_, h1, _, r'.take 13, r'.drop 13, by rw [List.take_append_drop], hp, w3, w4⟩, fun d => szd_mono (by omega) d _ (z3 d), fun d => szd_mono (by omega) d _ (z4 d)⟩
  subst hl
  exact ⟨s, l, rfl, ⟨b, o, hs, fun i c hc => (hp i c hc).1⟩, by omega, fun c hc => by
    obtain ⟨i, hi⟩ := List.getElem?_of_mem hc
    exact (hp i c hi).2⟩
end
end Go.Proofs.Ytmkihcdcgkdilaa
end
section
set_option linter.unusedVariables false
namespace Go.Proofs.Ytmkihcdcgkdilaa
open Go Go.Dk Go.RowKit
theorem agg13 {x : Value} (h : x.cells.toList.length = 13) : x = .agg (x.cells.toList).toArray := by
  cases x <;> first | rfl | (simp [Value.cells] at h)
theorem len_sum {α : Type} {f : α → Nat} (hf : ∀ x, 1 ≤ f x) : ∀ l : List α, l.length ≤ (l.map f).sum
  | [] => by simp
  | x :: l => by have := hf x; have := len_sum hf l; simp only [List.map_cons, List.sum_cons, List.length_cons]; omega
theorem mem_sum {α : Type} {f : α → Nat} : ∀ (l : List α) (x : α), x ∈ l → f x ≤ (l.map f).sum
  | y :: l, x, h => by
    simp only [List.map_cons, List.sum_cons]
    rcases List.mem_cons.1 h with rfl | h
    · omega
    · have := mem_sum (f := f) l x h; omega
theorem nw_tsz (m : Nat) : ∀ (d : Nat) (v : V), deep d v → tsz d v ≤ m → ∀ k, nw m k v
  | 0, _, h, _, _ => h.elim
  | d + 1, v, h, ht, 0 => trivial
  | d + 1, v, h, ht, k + 1 => by
    simp only [tsz] at ht
    refine ⟨?_, fun kv hk => nw_tsz m d kv.2 (h.2 kv hk) ?_ k⟩
    · have := len_sum (f := fun kv : ByteArray × V => tsz d kv.2) (fun kv => tsz_pos d kv.2) v.fields
      omega
    · have := mem_sum (f := fun kv : ByteArray × V => tsz d kv.2) v.fields kv hk
      omega
theorem good_valid (v : V) (h1 : okd 48 v) (h2 : deep 60 v) (h3 : tsz 60 v ≤ 100) (h4 : Fine v) : Gd 48 100 v := ⟨h1, h4, nw_tsz 100 60 v h2 h3⟩
end Go.Proofs.Ytmkihcdcgkdilaa
end
section
namespace Go.Proofs.Ytmkihcdcgkdilaa
open Go Go.Dk Go.RowKit
set_option linter.unusedSimpArgs false
set_option linter.unusedVariables false
attribute [local irreducible] Go.wpList Go.Code.wp Go.bodyPost Go.wpStill Go.wpQuiet
theorem mkB_mem {B : List Ch} {c : Ch} (h : c ∈ MkB B) : c ∈ B := by
  unfold MkB at h
  split at h
  · cases h
  · exact h

set_option maxRecDepth 10000 in
theorem c40 (E : V → V → Bool) (hE : ∀ x y, E x y = true ↔ canon x = canon y) (a b : V) (ra rb : List Value) (w0 : World) (hva : Val w0 a ra) (hvb : Val w0 b rb) (hoa : okd 48 a) (hob : okd 48 b) (hfa1 : Fine a) (hfb1 : Fine b) (hnar : Nar 48 a b) (hnb : (btw E 48 [] a b).length ≤ 1048576) : Fc Try.prog 40 [.agg ra.toArray, .agg rb.toArray] w0 (fun x w' => ∃ s, x = .tuple #[s, .int .i64 (MkE (btw E 48 [] a b))] ∧ Chs w' s (MkB (btw E 48 [] a b))) := by
  refine ret_enter Try.func40 rfl Try.ntmps40 rfl ?_
  have cx := Ctx.start w0
  refine wp_seq ?_
  refine wp_region_lit ?_
  refine s_box cx rfl rfl rfl rfl rfl ?_; intro b2 w cx hb2 hw2
  refine s_box cx rfl rfl rfl rfl rfl ?_; intro b3 w cx hb3 hw3
  refine s_val rfl rfl (v_assign rfl rfl) ?_
  refine s_val rfl rfl (v_assign rfl rfl) ?_
  refine wpList_nil ?_
  refine wp_seq ?_
  refine wp_region_lit ?_
  refine s_val rfl rfl (v_load rfl rfl Try.underlying33 rfl sz33 (cx.row 1 rfl) hva.len) ?_
  refine s_val rfl rfl (v_load rfl rfl Try.underlying33 rfl sz33 (cx.row 0 rfl) hvb.len) ?_
  have hz : Fz w0 [] [] w [(b3, .cells rb.toArray 33), (b2, .cells ra.toArray 33)] [] := (Fz.new hb2 hw2).trans (Fz.new hb3 hw3)
  replace hz := hz.trans (Fz.nilRow 35 29)
  replace cx := cx.nilRow 35 29
  refine s_callR rfl rfl (runs_fn Try.func65 rfl rfl rfl rfl) (c65 E hE 48 w0 _ _ (.slice none 0 0) 0 [] [] _ a b _ _ _ cx PthA.nil (hz.rep (rep0 hva)) (hz.rep (rep0 hvb)) hoa hob hfa1 hfb1 hnar (by simp) (by omega) (by omega)) ?_; intro q9 w hp9
  obtain ⟨S2, rs2, hsh2, cx, hz2, hcf2⟩ := hp9
  obtain ⟨qa, qc, rfl, _⟩ := cx.ownRow
  refine s_val rfl rfl (v_assign rfl rfl) ?_
  refine wpList_nil ?_
  refine wp_seq ?_
  refine wp_seq ?_
  refine wp_region_lit ?_
  refine s_val rfl rfl (v_move rfl rfl) ?_
  refine s_val rfl rfl (v_lenSlice rfl rfl Try.underlying22) ?_
  refine s_val rfl rfl (v_cmp rfl rfl rfl rfl) ?_
  refine wpList_nil ?_
  refine c_split rfl (fun hc12 => ?_) (fun hc12 => ?_)
  · skip
    have hc13 := of_decide_eq_true hc12
    refine wp_seq ?_
    refine wp_region_lit ?_
    refine s_val rfl rfl (v_assign rfl rfl) ?_
    refine s_val rfl rfl (v_assign rfl rfl) ?_
    refine wpList_nil ?_
    refine wp_ret ?_
    refine ret_tmp2 Try.results40 rfl rfl ?_
    have hm : 4096 < (btw E 48 [] a b).length := sho_many hsh2 (by omega)
    have hE1 : MkE (btw E 48 [] a b) = 10 := if_pos hm
    have hB1 : MkB (btw E 48 [] a b) = [] := if_pos hm
    exact ⟨cx.ext, .slice none 0 0, by rw [hE1]; rfl, by rw [hB1]; exact chs_nil⟩
  · skip
    have hc13 := of_decide_eq_false hc12
    refine wp_skip ?_
    refine wp_seq ?_
    refine wp_region_lit ?_
    refine s_val rfl rfl (v_move rfl rfl) ?_
    refine s_val rfl rfl (v_assign rfl rfl) ?_
    refine s_val rfl rfl (v_assign rfl rfl) ?_
    refine wpList_nil ?_
    refine wp_ret ?_
    refine ret_tmp2 Try.results40 rfl rfl ?_
    have hm : ¬ 4096 < (btw E 48 [] a b).length := fun h => by
      have := sho_few hsh2 (by omega)
      rw [← this] at h; omega
    have hE1 : MkE (btw E 48 [] a b) = 0 := if_neg hm
    have hB1 : MkB (btw E 48 [] a b) = btw E 48 [] a b := if_neg hm
    refine ⟨cx.ext, .slice qa (0 + S2.length) qc, by rw [hE1]; rfl, ?_⟩
    rw [hB1]
    rw [← sho_few hsh2 (by omega)]
    exact chs_of cx (by omega) (by simp) hcf2

set_option maxRecDepth 10000 in
theorem c41 (E : V → V → Bool) (hE : ∀ x y, E x y = true ↔ canon x = canon y) (a b : V) (ra rb : List Value) (w0 : World) (hva : Val w0 a ra) (hvb : Val w0 b rb) (hoa : okd 48 a) (hob : okd 48 b) (hfa1 : Fine a) (hfb1 : Fine b) (hnar : Nar 48 a b) (hnb : (btw E 48 [] a b).length ≤ 1048576) : Fc Try.prog 41 [.agg ra.toArray, .agg rb.toArray] w0 (fun x w' => ∃ s, x = .tuple #[s, .int .i64 (MkE (btw E 48 [] a b))] ∧ Chs w' s (MkB (btw E 48 [] a b))) := by
  refine ret_enter Try.func41 rfl Try.ntmps41 rfl ?_
  have cx := Ctx.start w0
  refine wp_seq ?_
  refine wp_region_lit ?_
  refine s_box cx rfl rfl rfl rfl rfl ?_; intro b2 w cx hb2 hw2
  refine s_box cx rfl rfl rfl rfl rfl ?_; intro b3 w cx hb3 hw3
  refine s_val rfl rfl (v_assign rfl rfl) ?_
  refine s_val rfl rfl (v_assign rfl rfl) ?_
  refine wpList_nil ?_
  refine wp_seq ?_
  refine wp_region_lit ?_
  refine s_val rfl rfl (v_load rfl rfl Try.underlying33 rfl sz33 (cx.row 1 rfl) hva.len) ?_
  refine s_val rfl rfl (v_load rfl rfl Try.underlying33 rfl sz33 (cx.row 0 rfl) hvb.len) ?_
  have hz : Fz w0 [] [] w [(b3, .cells rb.toArray 33), (b2, .cells ra.toArray 33)] [] := (Fz.new hb2 hw2).trans (Fz.new hb3 hw3)
  refine s_callR rfl rfl (runs_fn Try.func66 rfl rfl rfl rfl) (c66 E hE 48 w0 _ _ [] _ a b _ _ _ cx PthA.nil (hz.rep (rep0 hva)) (hz.rep (rep0 hvb)) hoa hob hfa1 hfb1 hnar (by simp) (by omega) (by omega)) ?_; intro q9 w hp9
  obtain ⟨rs2, cx, hz2, hcf2⟩ := hp9
  obtain ⟨qa, qc, rfl, _⟩ := cx.ownRow
  refine s_val rfl rfl (v_assign rfl rfl) ?_
  refine wpList_nil ?_
  refine wp_seq ?_
  refine wp_seq ?_
  refine wp_region_lit ?_
  refine s_val rfl rfl (v_move rfl rfl) ?_
  refine s_val rfl rfl (v_lenSlice rfl rfl Try.underlying22) ?_
  refine s_val rfl rfl (v_cmp rfl rfl rfl rfl) ?_
  refine wpList_nil ?_
  refine c_split rfl (fun hc12 => ?_) (fun hc12 => ?_)
  · skip
    have hc13 := of_decide_eq_true hc12
    refine wp_seq ?_
    refine wp_region_lit ?_
    refine s_val rfl rfl (v_assign rfl rfl) ?_
    refine s_val rfl rfl (v_assign rfl rfl) ?_
    refine wpList_nil ?_
    refine wp_ret ?_
    refine ret_tmp2 Try.results41 rfl rfl ?_
    have hm : 4096 < (btw E 48 [] a b).length := by omega
    have hE1 : MkE (btw E 48 [] a b) = 10 := if_pos hm
    have hB1 : MkB (btw E 48 [] a b) = [] := if_pos hm
    exact ⟨cx.ext, .slice none 0 0, by rw [hE1]; rfl, by rw [hB1]; exact chs_nil⟩
  · skip
    have hc13 := of_decide_eq_false hc12
    refine wp_skip ?_
    refine wp_seq ?_
    refine wp_region_lit ?_
    refine s_val rfl rfl (v_move rfl rfl) ?_
    refine s_val rfl rfl (v_assign rfl rfl) ?_
    refine s_val rfl rfl (v_assign rfl rfl) ?_
    refine wpList_nil ?_
    refine wp_ret ?_
    refine ret_tmp2 Try.results41 rfl rfl ?_
    have hm : ¬ 4096 < (btw E 48 [] a b).length := by omega
    have hE1 : MkE (btw E 48 [] a b) = 0 := if_neg hm
    have hB1 : MkB (btw E 48 [] a b) = btw E 48 [] a b := if_neg hm
    refine ⟨cx.ext, .slice qa (0 + (btw E 48 [] a b).length) qc, by rw [hE1]; rfl, ?_⟩
    rw [hB1]
    exact chs_of cx (by omega) (by simp) hcf2

set_option maxRecDepth 10000 in
set_option maxHeartbeats 6400000 in
theorem c14 (av bv : V) (ra rb : List Value) (w0 : World) (ha : Val w0 av ra) (hb : Val w0 bv rb) (hfa : Fine av) (hfb : Fine bv) : Fc Try.prog 14 [.agg ra.toArray, .agg rb.toArray] w0 (IsB fun b => b = true) := by
  obtain ⟨E, hE⟩ := classic_eqB
  refine ret_enter Try.func14 rfl Try.ntmps14 rfl ?_
  have cx := Ctx.start w0
  refine wp_seq ?_
  refine wp_region_lit ?_
  refine s_box cx rfl rfl rfl rfl rfl ?_; intro b2 w cx hb2 hw2
  refine s_box cx rfl rfl rfl rfl rfl ?_; intro b3 w cx hb3 hw3
  refine s_val rfl rfl (v_assign rfl rfl) ?_
  refine wpList_nil ?_
  refine wp_seq ?_
  refine wp_seq ?_
  refine wp_region_lit ?_
  refine s_val rfl rfl (v_load rfl rfl Try.underlying33 rfl sz33 (cx.row 1 rfl) ha.len) ?_
  refine s_fnB cx (c17 _ _ _ (ha.up cx.ext) hfa) Try.func17 rfl rfl rfl rfl rfl rfl ?_; intro q10 w cx hw10 hp10
  refine s_val rfl rfl (v_not rfl rfl) ?_
  refine s_val rfl rfl (v_move rfl rfl) ?_
  refine s_gval rfl rfl rfl (by first | exact w_ff rfl | exact w_gf rfl) (fun hc => v_load rfl rfl Try.underlying33 rfl sz33 (cx.row 0 rfl) hb.len) ?_
  refine s_gfnB cx rfl rfl rfl (by first | exact w_ff rfl | exact w_gf rfl) (fun hc => c17 _ _ _ (hb.up cx.ext) hfb) Try.func17 rfl rfl rfl (fun hc => (cons_eq (gve hc rfl) rfl)) ?_; intro q14 w cx hw14 hp14
  refine s_gval rfl rfl rfl (by first | exact w_ff rfl | exact w_gf rfl) (fun hc => v_not rfl (by first | exact gve hc rfl | exact gve (and_l hc) rfl | exact gve (and_l (and_l hc)) rfl | rfl)) ?_
  refine s_val rfl rfl (v_or rfl rfl rfl rfl) ?_
  refine wpList_nil ?_
  refine c_split rfl (fun hc16 => ?_) (fun hc16 => ?_)
  · skip
    skip
    refine wp_seq ?_
    refine wp_region_lit ?_
    refine s_val rfl rfl (v_assign rfl rfl) ?_
    refine wpList_nil ?_
    refine wp_ret ?_
    refine ret_tmp Try.results14 rfl ?_
    exact ⟨cx.ext, _, rfl, rfl⟩
  · skip
    skip
    have hq : q10 = true ∧ q14 = true := by
      cases q10 <;> cases q14 <;> simp_all
    obtain ⟨rfl, rfl⟩ := hq
    have OKA := okv_of (hp10 rfl)
    have OKB := okv_of (hp14 rfl rfl)
    have h1 := btw_few E 48 [] av bv OKA.ok
    have h2 := OKA.sz48
    have h3 := OKA.sz
    have h4 := OKB.sz48
    have h5 := OKB.sz
    have hnar := nar_small 48 av bv (by omega) (by omega)
    have hO1 : ∃ B, B = btw E 48 [] av bv := ⟨_, rfl⟩
    obtain ⟨B, hB⟩ := hO1
    have hBg := btw_good E 48 [] av bv hfa hfb
    have hBl : (MkB (btw E 48 [] av bv)).length ≤ 1048576 := by
      unfold MkB
      split
      · exact Nat.zero_le _
      · omega
    refine wp_skip ?_
    refine wp_seq ?_
    refine wp_region_lit ?_
    refine s_val rfl rfl (v_load rfl rfl Try.underlying33 rfl sz33 (cx.row 1 rfl) ha.len) ?_
    refine s_val rfl rfl (v_load rfl rfl Try.underlying33 rfl sz33 (cx.row 0 rfl) hb.len) ?_
    refine s_fn cx (c40 E hE av bv _ _ _ (ha.up cx.ext) (hb.up cx.ext) OKA.ok OKB.ok hfa hfb hnar (by omega)) Try.func40 rfl rfl rfl rfl rfl rfl ?_; intro q20 w cx hw20 hp20
    obtain ⟨s1, rfl, hs1⟩ := hp20
    refine s_val rfl rfl (v_move rfl rfl) ?_
    refine s_val rfl rfl (v_extract rfl rfl rfl) ?_
    refine s_val rfl rfl (v_extract rfl rfl rfl) ?_
    refine s_val rfl rfl (v_assign rfl rfl) ?_
    refine s_val rfl rfl (v_assign rfl rfl) ?_
    refine wpList_nil ?_
    refine wp_seq ?_
    refine wp_region_lit ?_
    refine s_val rfl rfl (v_load rfl rfl Try.underlying33 rfl sz33 (cx.row 1 rfl) ha.len) ?_
    refine s_val rfl rfl (v_load rfl rfl Try.underlying33 rfl sz33 (cx.row 0 rfl) hb.len) ?_
    refine s_fn cx (c41 E hE av bv _ _ _ (ha.up cx.ext) (hb.up cx.ext) OKA.ok OKB.ok hfa hfb hnar (by omega)) Try.func41 rfl rfl rfl rfl rfl rfl ?_; intro q26 w cx hw26 hp26
    obtain ⟨s2, rfl, hs2⟩ := hp26
    replace hs1 := hs1.up hw26
    rw [← hB] at hs1 hs2 hBl hBg ⊢
    refine s_val rfl rfl (v_move rfl rfl) ?_
    refine s_val rfl rfl (v_extract rfl rfl rfl) ?_
    refine s_val rfl rfl (v_extract rfl rfl rfl) ?_
    refine s_val rfl rfl (v_assign rfl rfl) ?_
    refine s_val rfl rfl (v_assign rfl rfl) ?_
    refine wpList_nil ?_
    refine wp_seq ?_
    refine wp_region_lit ?_
    refine s_val rfl rfl (v_move rfl rfl) ?_
    refine s_val rfl rfl (v_move rfl rfl) ?_
    refine s_val rfl rfl (v_cmp rfl rfl rfl rfl) ?_
    refine s_val rfl rfl (v_move rfl rfl) ?_
    refine s_gval rfl rfl rfl (by first | exact w_tt rfl | exact w_gt rfl) (fun hc => v_move rfl (by first | exact gve hc rfl | exact gve (and_l hc) rfl | exact gve (and_l (and_l hc)) rfl | rfl)) ?_
    refine s_gval rfl rfl rfl (by first | exact w_tt rfl | exact w_gt rfl) (fun hc => v_move rfl (by first | exact gve hc rfl | exact gve (and_l hc) rfl | exact gve (and_l (and_l hc)) rfl | rfl)) ?_
    refine s_gfnB cx rfl rfl rfl (by first | exact w_tt rfl | exact w_gt rfl) (fun hc => c42 (MkB B) _ _ _ hs1 hs2 hBl (fun c hc => by
      have := hBg c (mkB_mem hc)
      refine ⟨?_, this.2⟩
      have h9 := this.1
      simp at h9
      omega)) Try.func42 rfl rfl rfl (fun hc => cons_eq (gve hc rfl) (cons_eq (gve hc rfl) rfl)) ?_; intro q35 w cx hw35 hp35
    refine s_val rfl rfl (v_and rfl rfl rfl rfl) ?_
    refine s_val rfl rfl (v_assign rfl rfl) ?_
    refine wpList_nil ?_
    refine wp_ret ?_
    refine ret_tmp Try.results14 rfl ?_
    refine ⟨cx.ext, _, rfl, ?_⟩
    show ((MkE B == MkE B) && q35) = true
    rw [hp35 (by show (MkE B == MkE B) = true; rw [beq_self_eq_true]), beq_self_eq_true]; rfl
end Go.Proofs.Ytmkihcdcgkdilaa
end
section
namespace Go.Proofs.Ytmkihcdcgkdilaa
open Go Go.Dk Go.RowKit
set_option linter.unusedSimpArgs false
set_option linter.unusedVariables false
attribute [local irreducible] Go.wpList Go.Code.wp Go.bodyPost Go.wpStill Go.wpQuiet
theorem v_rem {P : Program} {o : Oper} {w : World} {ρ : Operand → Value} {t t' : TypeId} {x y : Operand} {k : IntKind} {p q : Int} (ho : o.op = .binOp .rem t x y t') (hx : ρ x = .int k p) (hy : ρ y = .int k q) (h1 : 1 ≤ q) : (execOp ρ o).run P w = .ok (.value (.int k (p.tmod q))) w := by
  unfold execOp
  rw [ho]
  have hq : q ≠ 0 := by omega
  simp [hx, hy, eqGuard, binOp, Op.intDiv, hq]
theorem v_cat {P : Program} {o : Oper} {w : World} {ρ : Operand → Value} {t t' : TypeId} {x y : Operand} {p q : ByteArray} (ho : o.op = .binOp .add t x y t') (hx : ρ x = .string p) (hy : ρ y = .string q) (h1 : p.size + q.size ≤ 1000000000) : (execOp ρ o).run P w = .ok (.value (.string (p ++ q))) w := by
  unfold execOp
  rw [ho]
  have hq : ¬ ((p.size + q.size : Nat) : Int) > IntKind.i64.max := by
    have : IntKind.i64.max = 9223372036854775807 := rfl
    rw [this]; omega
  simp only [hx, hy]
  simp only [eqGuard, binOp, Op.stringOp, if_neg hq]
  rfl
theorem v_subLo {P : Program} {o : Oper} {w : World} {ρ : Operand → Value} {t : TypeId} {x y : Operand} {s : ByteArray} {k : IntKind} {m : Int} (ho : o.op = .slice t x (some y) none none) (hx : ρ x = .string s) (hy : ρ y = .int k m) (hu : P.underlying t = some .string) (h0 : 0 ≤ m) (h1 : m ≤ s.size) :
    (execOp ρ o).run P w = .ok (.value (.string (s.extract m.toNat s.size))) w := by
  unfold execOp; rw [ho]
  have h2 : m.toNat ≤ s.size := by omega
  simp [hx, hy, Instr.sliceAt, Instr.slice, Instr.sliceBounds, Instr.sliceBound, asIntOf, run_underlying hu, h0, h1, h2]
theorem v_subHi {P : Program} {o : Oper} {w : World} {ρ : Operand → Value} {t : TypeId} {x y : Operand} {s : ByteArray} {k : IntKind} {m : Int} (ho : o.op = .slice t x none (some y) none) (hx : ρ x = .string s) (hy : ρ y = .int k m) (hu : P.underlying t = some .string) (h0 : 0 ≤ m) (h1 : m ≤ s.size) :
    (execOp ρ o).run P w = .ok (.value (.string (s.extract 0 m.toNat))) w := by
  unfold execOp; rw [ho]
  have h2 : m.toNat ≤ s.size := by omega
  simp [hx, hy, Instr.sliceAt, Instr.slice, Instr.sliceBounds, Instr.sliceBound, asIntOf, run_underlying hu, h0, h1, h2]
theorem strOf1 (k : Int) : (strOf [k]).size = 1 := rfl
theorem bd26n (neg : Bool) (s : ByteArray) (e : Int) (w : World) : (Instr.build 26 ([(0, .bool neg), (1, .string s), (2, .int .i64 e)] : List (Nat × Value)).toArray).run Try.prog w = .ok (.agg #[.bool neg, .string s, .int .i64 e]) w := by
  go_simp
theorem bd33n (neg : Bool) (s : ByteArray) (e : Int) (w : World) : (Instr.build 33 ([(0, .int .i64 2), (2, .agg #[.bool neg, .string s, .int .i64 e])] : List (Nat × Value)).toArray).run Try.prog w = .ok (.agg (nrow (numV neg s e)).toArray) w := by
  unfold nrow vrow numV
  go_simp
  exact ⟨rfl, rfl, rfl, rfl, rfl, rfl, rfl, rfl, rfl, rfl⟩
theorem bd33k6 (w : World) : (Instr.build 33 ([(0, .int .i64 6)] : List (Nat × Value)).toArray).run Try.prog w = .ok (.agg (vrow (zk 6) (.slice none 0 0) (.slice none 0 0) (.slice none 0 0)).toArray) w := by
  unfold vrow zk
  go_simp
  rfl

set_option maxRecDepth 10000 in
theorem c126z (s : ByteArray) (w0 : World) (hs : s.size ≤ 1073741824) : Fc Try.prog 126 [.string s] w0 (IsI fun m => 0 ≤ m ∧ m ≤ s.size) := by
  refine ret_enter Try.func126 rfl Try.ntmps126 rfl ?_
  have cx := Ctx.start w0
  refine wp_seq ?_
  refine wp_region_lit ?_
  refine s_val rfl rfl (v_assign rfl rfl) ?_
  refine wpList_nil ?_
  refine wp_seq ?_
  refine wp_region_lit ?_
  refine s_val rfl rfl (v_assign rfl rfl) ?_
  refine wpList_nil ?_
  refine wp_seq ?_
  refine wp_block ?_
  refine w_loop (fun k f w1 => ∃ i : Nat, k + i = s.size ∧ f 0 = .string s ∧ f 3 = .int .i64 i ∧ Ctx w0 w1 []) (s.size) ?_ ?_
  · skip
    exact ⟨0, by omega, rfl, rfl, cx⟩
  intro gk2 f w hJ
  obtain ⟨i, hk, hs0, hs3, cx⟩ := hJ
  refine wp_seq ?_
  refine wp_seq ?_
  refine wp_region_lit ?_
  refine s_val rfl rfl (v_move rfl hs3) ?_
  refine s_val rfl rfl (v_move rfl hs0) ?_
  refine s_val rfl rfl (v_lenString rfl rfl Try.underlying9) ?_
  refine s_val rfl rfl (v_cmp rfl rfl rfl rfl) ?_
  refine s_val rfl rfl (v_move rfl rfl) ?_
  refine s_gval rfl rfl rfl (by first | exact w_tt rfl | exact w_gt rfl) (fun hc => v_move rfl hs0) ?_
  refine s_gval rfl rfl rfl (by first | exact w_tt rfl | exact w_gt rfl) (fun hc => v_move rfl hs0) ?_
  refine s_gval rfl rfl rfl (by first | exact w_tt rfl | exact w_gt rfl) (fun hc => v_lenString rfl (by first | exact gve hc rfl | exact gve (and_l hc) rfl | exact gve (and_l (and_l hc)) rfl | rfl) Try.underlying9) ?_
  refine s_gval rfl rfl rfl (by first | exact w_tt rfl | exact w_gt rfl) (fun hc => v_sub rfl (by first | exact gve hc rfl | exact gve (and_l hc) rfl | exact gve (and_l (and_l hc)) rfl | rfl) rfl (by first | omega | (simp only [Bool.and_eq_true, Bool.or_eq_true, Bool.and_eq_false_iff, Bool.or_eq_false_iff, Bool.not_eq_true', Bool.not_eq_false', decide_eq_true_eq, decide_eq_false_iff_not, beq_iff_eq, beq_eq_false_iff_ne, bne_iff_ne, bne_eq_false_iff_eq, ne_eq, Classical.not_not] at hc; omega)) (by first | omega | (simp only [Bool.and_eq_true, Bool.or_eq_true, Bool.and_eq_false_iff, Bool.or_eq_false_iff, Bool.not_eq_true', Bool.not_eq_false', decide_eq_true_eq, decide_eq_false_iff_not, beq_iff_eq, beq_eq_false_iff_ne, bne_iff_ne, bne_eq_false_iff_eq, ne_eq, Classical.not_not] at hc; omega))) ?_
  refine s_gval rfl rfl rfl (by first | exact w_tt rfl | exact w_gt rfl) (fun hc => v_move rfl hs3) ?_
  refine s_gval rfl rfl rfl (by first | exact w_tt rfl | exact w_gt rfl) (fun hc => v_sub rfl (by first | exact gve hc rfl | exact gve (and_l hc) rfl | exact gve (and_l (and_l hc)) rfl | rfl) (by first | exact gve hc rfl | exact gve (and_l hc) rfl | exact gve (and_l (and_l hc)) rfl | rfl) (by first | omega | (simp only [Bool.and_eq_true, Bool.or_eq_true, Bool.and_eq_false_iff, Bool.or_eq_false_iff, Bool.not_eq_true', Bool.not_eq_false', decide_eq_true_eq, decide_eq_false_iff_not, beq_iff_eq, beq_eq_false_iff_ne, bne_iff_ne, bne_eq_false_iff_eq, ne_eq, Classical.not_not] at hc; omega)) (by first | omega | (simp only [Bool.and_eq_true, Bool.or_eq_true, Bool.and_eq_false_iff, Bool.or_eq_false_iff, Bool.not_eq_true', Bool.not_eq_false', decide_eq_true_eq, decide_eq_false_iff_not, beq_iff_eq, beq_eq_false_iff_ne, bne_iff_ne, bne_eq_false_iff_eq, ne_eq, Classical.not_not] at hc; omega))) ?_
  refine s_gval rfl rfl rfl (by first | exact w_tt rfl | exact w_gt rfl) (fun hc => v_idxStr rfl (by first | exact gve hc rfl | exact gve (and_l hc) rfl | exact gve (and_l (and_l hc)) rfl | rfl) (by first | exact gve hc rfl | exact gve (and_l hc) rfl | exact gve (and_l (and_l hc)) rfl | rfl) Try.underlying9 (by first | omega | (simp only [Bool.and_eq_true, Bool.or_eq_true, Bool.and_eq_false_iff, Bool.or_eq_false_iff, Bool.not_eq_true', Bool.not_eq_false', decide_eq_true_eq, decide_eq_false_iff_not, beq_iff_eq, beq_eq_false_iff_ne, bne_iff_ne, bne_eq_false_iff_eq, ne_eq, Classical.not_not] at hc; omega)) (by first | omega | (simp only [Bool.and_eq_true, Bool.or_eq_true, Bool.and_eq_false_iff, Bool.or_eq_false_iff, Bool.not_eq_true', Bool.not_eq_false', decide_eq_true_eq, decide_eq_false_iff_not, beq_iff_eq, beq_eq_false_iff_ne, bne_iff_ne, bne_eq_false_iff_eq, ne_eq, Classical.not_not] at hc; omega))) ?_
  refine s_gval rfl rfl rfl (by first | exact w_tt rfl | exact w_gt rfl) (fun hc => v_cmp rfl (by first | exact gve hc rfl | exact gve (and_l hc) rfl | exact gve (and_l (and_l hc)) rfl | rfl) rfl rfl) ?_
  refine s_val rfl rfl (v_and rfl rfl rfl rfl) ?_
  refine wpList_nil ?_
  refine c_split rfl (fun hc17 => ?_) (fun hc17 => ?_)
  · skip
    try simp only [Bool.and_eq_true, Bool.or_eq_true, Bool.and_eq_false_iff, Bool.or_eq_false_iff, Bool.not_eq_true', Bool.not_eq_false', decide_eq_true_eq, decide_eq_false_iff_not, beq_iff_eq, beq_eq_false_iff_ne, bne_iff_ne, bne_eq_false_iff_eq, ne_eq, Classical.not_not] at hc17
    refine wp_skip ?_
    refine wp_block ?_
    refine wp_region_lit ?_
    refine s_val rfl rfl (v_move rfl hs3) ?_
    refine s_val rfl rfl (v_add rfl rfl rfl (by omega) (by omega)) ?_
    refine s_val rfl rfl (v_assign rfl rfl) ?_
    refine wpList_nil ?_
    exact ⟨gk2 - 1, _, by omega, rfl, i + 1, by omega, hs0, rfl, cx⟩
  · skip
    try simp only [Bool.and_eq_true, Bool.or_eq_true, Bool.and_eq_false_iff, Bool.or_eq_false_iff, Bool.not_eq_true', Bool.not_eq_false', decide_eq_true_eq, decide_eq_false_iff_not, beq_iff_eq, beq_eq_false_iff_ne, bne_iff_ne, bne_eq_false_iff_eq, ne_eq, Classical.not_not] at hc17
    refine wp_exit ?_
    refine wp_seq ?_
    refine wp_region_lit ?_
    refine s_val rfl rfl (v_move rfl hs3) ?_
    refine s_val rfl rfl (v_assign rfl rfl) ?_
    refine wpList_nil ?_
    refine wp_ret ?_
    refine ret_tmp Try.results126 rfl ?_
    exact ⟨cx.ext, _, rfl, by omega, by omega⟩

set_option maxRecDepth 10000 in
theorem c125 (s : ByteArray) (w0 : World) (hs : s.size ≤ 1073741824) : Fc Try.prog 125 [.string s] w0 (fun x _ => ∃ t : ByteArray, x = .string t ∧ t.size ≤ s.size) := by
  refine ret_enter Try.func125 rfl Try.ntmps125 rfl ?_
  have cx := Ctx.start w0
  refine wp_seq ?_
  refine wp_region_lit ?_
  refine s_val rfl rfl (v_assign rfl rfl) ?_
  refine wpList_nil ?_
  refine wp_seq ?_
  refine wp_region_lit ?_
  refine s_val rfl rfl (v_assign rfl rfl) ?_
  refine wpList_nil ?_
  refine wp_seq ?_
  refine wp_block ?_
  refine w_loop (fun k f w1 => ∃ i : Nat, k + i = s.size ∧ f 0 = .string s ∧ f 3 = .int .i64 i ∧ Ctx w0 w1 []) (s.size) ?_ ?_
  · skip
    exact ⟨0, by omega, rfl, rfl, cx⟩
  intro gk2 f w hJ
  obtain ⟨i, hk, hs0, hs3, cx⟩ := hJ
  refine wp_seq ?_
  refine wp_seq ?_
  refine wp_region_lit ?_
  refine s_val rfl rfl (v_move rfl hs3) ?_
  refine s_val rfl rfl (v_move rfl hs0) ?_
  refine s_val rfl rfl (v_lenString rfl rfl Try.underlying9) ?_
  refine s_val rfl rfl (v_cmp rfl rfl rfl rfl) ?_
  refine s_val rfl rfl (v_move rfl rfl) ?_
  refine s_gval rfl rfl rfl (by first | exact w_tt rfl | exact w_gt rfl) (fun hc => v_move rfl hs0) ?_
  refine s_gval rfl rfl rfl (by first | exact w_tt rfl | exact w_gt rfl) (fun hc => v_move rfl hs3) ?_
  refine s_gval rfl rfl rfl (by first | exact w_tt rfl | exact w_gt rfl) (fun hc => v_idxStr rfl (by first | exact gve hc rfl | exact gve (and_l hc) rfl | exact gve (and_l (and_l hc)) rfl | rfl) (by first | exact gve hc rfl | exact gve (and_l hc) rfl | exact gve (and_l (and_l hc)) rfl | rfl) Try.underlying9 (by first | omega | (simp only [Bool.and_eq_true, Bool.or_eq_true, Bool.and_eq_false_iff, Bool.or_eq_false_iff, Bool.not_eq_true', Bool.not_eq_false', decide_eq_true_eq, decide_eq_false_iff_not, beq_iff_eq, beq_eq_false_iff_ne, bne_iff_ne, bne_eq_false_iff_eq, ne_eq, Classical.not_not] at hc; omega)) (by first | omega | (simp only [Bool.and_eq_true, Bool.or_eq_true, Bool.and_eq_false_iff, Bool.or_eq_false_iff, Bool.not_eq_true', Bool.not_eq_false', decide_eq_true_eq, decide_eq_false_iff_not, beq_iff_eq, beq_eq_false_iff_ne, bne_iff_ne, bne_eq_false_iff_eq, ne_eq, Classical.not_not] at hc; omega))) ?_
  refine s_gval rfl rfl rfl (by first | exact w_tt rfl | exact w_gt rfl) (fun hc => v_cmp rfl (by first | exact gve hc rfl | exact gve (and_l hc) rfl | exact gve (and_l (and_l hc)) rfl | rfl) rfl rfl) ?_
  refine s_val rfl rfl (v_and rfl rfl rfl rfl) ?_
  refine wpList_nil ?_
  refine c_split rfl (fun hc13 => ?_) (fun hc13 => ?_)
  · skip
    try simp only [Bool.and_eq_true, Bool.or_eq_true, Bool.and_eq_false_iff, Bool.or_eq_false_iff, Bool.not_eq_true', Bool.not_eq_false', decide_eq_true_eq, decide_eq_false_iff_not, beq_iff_eq, beq_eq_false_iff_ne, bne_iff_ne, bne_eq_false_iff_eq, ne_eq, Classical.not_not] at hc13
    refine wp_skip ?_
    refine wp_block ?_
    refine wp_region_lit ?_
    refine s_val rfl rfl (v_move rfl hs3) ?_
    refine s_val rfl rfl (v_add rfl rfl rfl (by omega) (by omega)) ?_
    refine s_val rfl rfl (v_assign rfl rfl) ?_
    refine wpList_nil ?_
    exact ⟨gk2 - 1, _, by omega, rfl, i + 1, by omega, hs0, rfl, cx⟩
  · skip
    try simp only [Bool.and_eq_true, Bool.or_eq_true, Bool.and_eq_false_iff, Bool.or_eq_false_iff, Bool.not_eq_true', Bool.not_eq_false', decide_eq_true_eq, decide_eq_false_iff_not, beq_iff_eq, beq_eq_false_iff_ne, bne_iff_ne, bne_eq_false_iff_eq, ne_eq, Classical.not_not] at hc13
    refine wp_exit ?_
    refine wp_seq ?_
    refine wp_region_lit ?_
    refine s_val rfl rfl (v_move rfl hs0) ?_
    refine s_val rfl rfl (v_move rfl hs3) ?_
    refine s_val rfl rfl (v_subLo rfl rfl rfl Try.underlying9 (by omega) (by omega)) ?_
    refine s_val rfl rfl (v_assign rfl rfl) ?_
    refine wpList_nil ?_
    refine wp_ret ?_
    refine ret_tmp Try.results125 rfl ?_
    exact ⟨cx.ext, _, rfl, by rw [ByteArray.size_extract]; omega⟩

set_option maxRecDepth 10000 in
theorem c102 (g : Bool) (s : ByteArray) (w0 : World) (hs : s.size ≤ 1048576) : Fc Try.prog 102 [.bool g, .string s, .int .i64 0] w0 (fun x _ => ∃ (g : Bool) (t : ByteArray) (e m : Int), x = .tuple #[.agg #[.bool g, .string t, .int .i64 e], .int .i64 m] ∧ t.size ≤ 1048576) := by
  refine ret_enter Try.func102 rfl Try.ntmps102 rfl ?_
  have cx := Ctx.start w0
  refine wp_seq ?_
  refine wp_region_lit ?_
  refine s_alloc cx z26 rfl rfl rfl ?_; intro b6 w cx hb6 hw6
  refine s_val rfl rfl (v_assign rfl rfl) ?_
  refine wpList_nil ?_
  refine wp_seq ?_
  refine wp_region_lit ?_
  refine s_val rfl rfl (v_move rfl rfl) ?_
  refine s_fn cx (c125 s _ (by omega)) Try.func125 rfl rfl rfl rfl rfl rfl ?_; intro q10 w cx hw10 hp10
  obtain ⟨u, rfl, hu⟩ := hp10
  refine s_val rfl rfl (v_assign rfl rfl) ?_
  refine wpList_nil ?_
  refine wp_seq ?_
  refine wp_seq ?_
  refine wp_region_lit ?_
  refine s_val rfl rfl (v_move rfl rfl) ?_
  refine s_val rfl rfl (v_strEq rfl rfl rfl) ?_
  refine wpList_nil ?_
  refine c_split rfl (fun hc12 => ?_) (fun hc12 => ?_)
  · skip
    try simp only [Bool.and_eq_true, Bool.or_eq_true, Bool.and_eq_false_iff, Bool.or_eq_false_iff, Bool.not_eq_true', Bool.not_eq_false', decide_eq_true_eq, decide_eq_false_iff_not, beq_iff_eq, beq_eq_false_iff_ne, bne_iff_ne, bne_eq_false_iff_eq, ne_eq, Classical.not_not] at hc12
    refine wp_seq ?_
    refine wp_region_lit ?_
    refine s_val rfl rfl (v_build bd26 rfl rfl) ?_
    refine s_storeAllG cx 0 rfl rfl rfl rfl rfl rfl sz26 rfl rfl ?_; intro w cx hg3
    refine s_val rfl rfl (v_assign rfl rfl) ?_
    refine wpList_nil ?_
    refine wp_ret ?_
    exact ret_cell2 Try.results102 rfl rfl (cx.at 0 rfl) Try.underlying26 rfl sz26 ⟨cx.ext, _, _, _, _, rfl, Nat.zero_le _⟩
  · skip
    try simp only [Bool.and_eq_true, Bool.or_eq_true, Bool.and_eq_false_iff, Bool.or_eq_false_iff, Bool.not_eq_true', Bool.not_eq_false', decide_eq_true_eq, decide_eq_false_iff_not, beq_iff_eq, beq_eq_false_iff_ne, bne_iff_ne, bne_eq_false_iff_eq, ne_eq, Classical.not_not] at hc12
    refine wp_skip ?_
    refine wp_seq ?_
    refine wp_region_lit ?_
    refine s_val rfl rfl (v_move rfl rfl) ?_
    refine s_fnI cx (c126z u _ (by omega)) Try.func126 rfl rfl rfl rfl rfl rfl ?_; intro q15 w cx hw15 hp15
    obtain ⟨hz0, hz1⟩ := hp15
    refine s_val rfl rfl (v_assign rfl rfl) ?_
    refine wpList_nil ?_
    refine wp_seq ?_
    refine wp_region_lit ?_
    refine s_val rfl rfl (v_move rfl rfl) ?_
    refine s_val rfl rfl (v_move rfl rfl) ?_
    refine s_val rfl rfl (v_lenString rfl rfl Try.underlying9) ?_
    refine s_val rfl rfl (v_move rfl rfl) ?_
    refine s_val rfl rfl (v_sub rfl rfl rfl (by omega) (by omega)) ?_
    refine s_val rfl rfl (v_subHi rfl rfl rfl Try.underlying9 (by omega) (by omega)) ?_
    refine s_val rfl rfl (v_assign rfl rfl) ?_
    refine wpList_nil ?_
    refine wp_seq ?_
    refine wp_seq ?_
    refine wp_region_lit ?_
    refine s_val rfl rfl (v_move rfl rfl) ?_
    refine s_val rfl rfl (v_lenString rfl rfl Try.underlying9) ?_
    refine s_val rfl rfl (v_cmp rfl rfl rfl rfl) ?_
    refine s_val rfl rfl (v_move rfl rfl) ?_
    refine s_gval rfl rfl rfl (by first | exact w_ff rfl | exact w_gf rfl) (fun hc => v_move rfl (by first | exact gve hc rfl | exact gve (and_l hc) rfl | exact gve (and_l (and_l hc)) rfl | rfl)) ?_
    refine s_gval rfl rfl rfl (by first | exact w_ff rfl | exact w_gf rfl) (fun hc => v_cmp rfl (by first | exact gve hc rfl | exact gve (and_l hc) rfl | exact gve (and_l (and_l hc)) rfl | rfl) rfl rfl) ?_
    refine s_val rfl rfl (v_or rfl rfl rfl rfl) ?_
    refine s_val rfl rfl (v_move rfl rfl) ?_
    refine s_gval rfl rfl rfl (by first | exact w_ff rfl | exact w_gf rfl) (fun hc => v_move rfl (by first | exact gve hc rfl | exact gve (and_l hc) rfl | exact gve (and_l (and_l hc)) rfl | rfl)) ?_
    refine s_gval rfl rfl rfl (by first | exact w_ff rfl | exact w_gf rfl) (fun hc => v_move rfl (by first | exact gve hc rfl | exact gve (and_l hc) rfl | exact gve (and_l (and_l hc)) rfl | rfl)) ?_
    refine s_gval rfl rfl rfl (by first | exact w_ff rfl | exact w_gf rfl) (fun hc => v_add rfl (by first | exact gve hc rfl | exact gve (and_l hc) rfl | exact gve (and_l (and_l hc)) rfl | rfl) (by first | exact gve hc rfl | exact gve (and_l hc) rfl | exact gve (and_l (and_l hc)) rfl | rfl) (by first | omega | (simp only [Bool.and_eq_true, Bool.or_eq_true, Bool.and_eq_false_iff, Bool.or_eq_false_iff, Bool.not_eq_true', Bool.not_eq_false', decide_eq_true_eq, decide_eq_false_iff_not, beq_iff_eq, beq_eq_false_iff_ne, bne_iff_ne, bne_eq_false_iff_eq, ne_eq, Classical.not_not] at hc; omega)) (by first | omega | (simp only [Bool.and_eq_true, Bool.or_eq_true, Bool.and_eq_false_iff, Bool.or_eq_false_iff, Bool.not_eq_true', Bool.not_eq_false', decide_eq_true_eq, decide_eq_false_iff_not, beq_iff_eq, beq_eq_false_iff_ne, bne_iff_ne, bne_eq_false_iff_eq, ne_eq, Classical.not_not] at hc; omega))) ?_
    refine s_gval rfl rfl rfl (by first | exact w_ff rfl | exact w_gf rfl) (fun hc => v_cmp rfl (by first | exact gve hc rfl | exact gve (and_l hc) rfl | exact gve (and_l (and_l hc)) rfl | rfl) rfl rfl) ?_
    refine s_val rfl rfl (v_or rfl rfl rfl rfl) ?_
    refine s_val rfl rfl (v_move rfl rfl) ?_
    refine s_gval rfl rfl rfl (by first | exact w_ff rfl | exact w_gf rfl) (fun hc => v_move rfl (by first | exact gve hc rfl | exact gve (and_l hc) rfl | exact gve (and_l (and_l hc)) rfl | rfl)) ?_
    refine s_gval rfl rfl rfl (by first | exact w_ff rfl | exact w_gf rfl) (fun hc => v_move rfl (by first | exact gve hc rfl | exact gve (and_l hc) rfl | exact gve (and_l (and_l hc)) rfl | rfl)) ?_
    refine s_gval rfl rfl rfl (by first | exact w_ff rfl | exact w_gf rfl) (fun hc => v_add rfl (by first | exact gve hc rfl | exact gve (and_l hc) rfl | exact gve (and_l (and_l hc)) rfl | rfl) (by first | exact gve hc rfl | exact gve (and_l hc) rfl | exact gve (and_l (and_l hc)) rfl | rfl) (by first | omega | (simp only [Bool.and_eq_true, Bool.or_eq_true, Bool.and_eq_false_iff, Bool.or_eq_false_iff, Bool.not_eq_true', Bool.not_eq_false', decide_eq_true_eq, decide_eq_false_iff_not, beq_iff_eq, beq_eq_false_iff_ne, bne_iff_ne, bne_eq_false_iff_eq, ne_eq, Classical.not_not] at hc; omega)) (by first | omega | (simp only [Bool.and_eq_true, Bool.or_eq_true, Bool.and_eq_false_iff, Bool.or_eq_false_iff, Bool.not_eq_true', Bool.not_eq_false', decide_eq_true_eq, decide_eq_false_iff_not, beq_iff_eq, beq_eq_false_iff_ne, bne_iff_ne, bne_eq_false_iff_eq, ne_eq, Classical.not_not] at hc; omega))) ?_
    refine s_gval rfl rfl rfl (by first | exact w_ff rfl | exact w_gf rfl) (fun hc => v_cmp rfl (by first | exact gve hc rfl | exact gve (and_l hc) rfl | exact gve (and_l (and_l hc)) rfl | rfl) rfl rfl) ?_
    refine s_val rfl rfl (v_or rfl rfl rfl rfl) ?_
    refine wpList_nil ?_
    refine c_split rfl (fun hc40 => ?_) (fun hc40 => ?_)
    · skip
      try simp only [Bool.and_eq_true, Bool.or_eq_true, Bool.and_eq_false_iff, Bool.or_eq_false_iff, Bool.not_eq_true', Bool.not_eq_false', decide_eq_true_eq, decide_eq_false_iff_not, beq_iff_eq, beq_eq_false_iff_ne, bne_iff_ne, bne_eq_false_iff_eq, ne_eq, Classical.not_not] at hc40
      refine wp_seq ?_
      refine wp_region_lit ?_
      refine s_val rfl rfl (v_build bd26 rfl rfl) ?_
      refine s_storeAllG cx 0 rfl rfl rfl rfl rfl rfl sz26 rfl rfl ?_; intro w cx hg7
      refine s_val rfl rfl (v_assign rfl rfl) ?_
      refine wpList_nil ?_
      refine wp_ret ?_
      exact ret_cell2 Try.results102 rfl rfl (cx.at 0 rfl) Try.underlying26 rfl sz26 ⟨cx.ext, _, _, _, _, rfl, Nat.zero_le _⟩
    · skip
      try simp only [Bool.and_eq_true, Bool.or_eq_true, Bool.and_eq_false_iff, Bool.or_eq_false_iff, Bool.not_eq_true', Bool.not_eq_false', decide_eq_true_eq, decide_eq_false_iff_not, beq_iff_eq, beq_eq_false_iff_ne, bne_iff_ne, bne_eq_false_iff_eq, ne_eq, Classical.not_not] at hc40
      refine wp_skip ?_
      refine wp_seq ?_
      refine wp_region_lit ?_
      refine s_val rfl rfl (v_move rfl rfl) ?_
      refine s_val rfl rfl (v_move rfl rfl) ?_
      refine s_val rfl rfl (v_move rfl rfl) ?_
      refine s_val rfl rfl (v_move rfl rfl) ?_
      refine s_val rfl rfl (v_add rfl rfl rfl (by omega) (by omega)) ?_
      refine s_val rfl rfl (v_build (bd26n _ _ _) rfl rfl) ?_
      refine s_storeAllG cx 0 rfl rfl rfl rfl rfl rfl sz26 rfl rfl ?_; intro w cx hg8
      refine s_val rfl rfl (v_assign rfl rfl) ?_
      refine wpList_nil ?_
      refine wp_ret ?_
      exact ret_cell2 Try.results102 rfl rfl (cx.at 0 rfl) Try.underlying26 rfl sz26 ⟨cx.ext, _, _, _, _, rfl, by rw [ByteArray.size_extract]; omega⟩

set_option maxRecDepth 10000 in
theorem c100 (n : Int) (w0 : World) (h0 : 0 ≤ n) (h1 : n ≤ 9) : Fc Try.prog 100 [.int .i64 n] w0 (fun x _ => ∃ t : ByteArray, x = .string t ∧ t.size ≤ 1) := by
  refine ret_enter Try.func100 rfl Try.ntmps100 rfl ?_
  have cx := Ctx.start w0
  refine wp_seq ?_
  refine wp_region_lit ?_
  refine s_val rfl rfl (v_assign rfl rfl) ?_
  refine wpList_nil ?_
  refine wp_seq ?_
  refine wp_region_lit ?_
  refine s_val rfl rfl (v_assign rfl rfl) ?_
  refine wpList_nil ?_
  refine wp_seq ?_
  refine wp_block ?_
  refine w_loop (fun k f w1 => ∃ (m : Int) (s : ByteArray), f 0 = .int .i64 m ∧ f 3 = .string s ∧ 0 ≤ m ∧ m ≤ 9 ∧ (k = 0 → m = 0) ∧ s.size + k ≤ 1 ∧ Ctx w0 w1 []) (1) ?_ ?_
  · skip
    exact ⟨n, _, rfl, rfl, h0, h1, by omega, by decide, cx⟩
  intro gk2 f w hJ
  obtain ⟨m, s, hs0, hs3, hm0, hm1, hk0, hsz, cx⟩ := hJ
  refine wp_seq ?_
  refine wp_seq ?_
  refine wp_region_lit ?_
  refine s_val rfl rfl (v_move rfl hs0) ?_
  refine s_val rfl rfl (v_cmp rfl rfl rfl rfl) ?_
  refine wpList_nil ?_
  refine c_split rfl (fun hc5 => ?_) (fun hc5 => ?_)
  · skip
    try simp only [Bool.and_eq_true, Bool.or_eq_true, Bool.and_eq_false_iff, Bool.or_eq_false_iff, Bool.not_eq_true', Bool.not_eq_false', decide_eq_true_eq, decide_eq_false_iff_not, beq_iff_eq, beq_eq_false_iff_ne, bne_iff_ne, bne_eq_false_iff_eq, ne_eq, Classical.not_not] at hc5
    have hm0 := Int.tmod_nonneg 10 (show 0 ≤ m by omega)
    have hm1 := Int.tmod_lt_of_pos m (show (0 : Int) < 10 by omega)
    have hk1 : gk2 = 1 := by omega
    refine wp_skip ?_
    refine wp_block ?_
    refine wp_seq ?_
    refine wp_region_lit ?_
    refine s_val rfl rfl (v_move rfl hs0) ?_
    refine s_val rfl rfl (v_rem rfl rfl rfl (by omega)) ?_
    refine s_val rfl rfl (v_add rfl rfl rfl (by omega) (by omega)) ?_
    refine s_val rfl rfl (v_conv rfl rfl Try.underlying3 Try.underlying5) ?_
    refine s_bsl1 cx Try.underlying29 sz5 z5 rfl rfl rfl rfl rfl rfl rfl rfl ?_; intro b10 w cx hb10 hw10
    have hr10 : RowAt w b10 0 (([_] : List Int).map (Value.int .u8)) := cx.row 0 rfl
    replace cx := cx.tl
    refine s_val rfl rfl (v_b2s rfl Try.underlying29 Try.underlying5 Try.underlying9 hr10 rfl rfl) ?_
    refine s_val rfl rfl (v_move rfl hs3) ?_
    refine s_val rfl rfl (v_cat rfl rfl rfl (by rw [strOf1]; omega)) ?_
    refine s_val rfl rfl (v_assign rfl rfl) ?_
    refine wpList_nil ?_
    refine wp_region_lit ?_
    refine s_val rfl rfl (v_move rfl hs0) ?_
    refine s_val rfl rfl (v_quo rfl rfl rfl (by omega) (by omega) (by omega)) ?_
    refine s_val rfl rfl (v_assign rfl rfl) ?_
    refine wpList_nil ?_
    exact ⟨0, _, by omega, rfl, _, _, rfl, rfl, by omega, by omega, fun _ => by omega, by rw [ByteArray.size_append, strOf1]; omega, cx⟩
  · skip
    try simp only [Bool.and_eq_true, Bool.or_eq_true, Bool.and_eq_false_iff, Bool.or_eq_false_iff, Bool.not_eq_true', Bool.not_eq_false', decide_eq_true_eq, decide_eq_false_iff_not, beq_iff_eq, beq_eq_false_iff_ne, bne_iff_ne, bne_eq_false_iff_eq, ne_eq, Classical.not_not] at hc5
    refine wp_exit ?_
    refine wp_seq ?_
    refine wp_region_lit ?_
    refine s_val rfl rfl (v_move rfl hs3) ?_
    refine s_val rfl rfl (v_assign rfl rfl) ?_
    refine wpList_nil ?_
    refine wp_ret ?_
    refine ret_tmp Try.results100 rfl ?_
    exact ⟨cx.ext, _, rfl, by omega⟩

set_option maxRecDepth 10000 in
theorem c69 (n : Int) (w0 : World) (h0 : 0 ≤ n) (h1 : n ≤ 9) : Fc Try.prog 69 [.int .i64 n] w0 (fun x _ => ∃ (g : Bool) (t : ByteArray) (e : Int), x = .agg #[.bool g, .string t, .int .i64 e] ∧ t.size ≤ 1048576) := by
  refine ret_enter Try.func69 rfl Try.ntmps69 rfl ?_
  have cx := Ctx.start w0
  refine wp_seq ?_
  refine wp_region_lit ?_
  refine s_alloc cx z26 rfl rfl rfl ?_; intro b2 w cx hb2 hw2
  refine wpList_nil ?_
  refine wp_seq ?_
  refine wp_region_lit ?_
  refine s_val rfl rfl (v_move rfl rfl) ?_
  refine s_fn cx (c100 n _ h0 h1) Try.func100 rfl rfl rfl rfl rfl rfl ?_; intro q7 w cx hw7 hp7
  obtain ⟨t7, rfl, ht7⟩ := hp7
  refine s_val rfl rfl (v_assign rfl rfl) ?_
  refine wpList_nil ?_
  refine wp_seq ?_
  refine wp_seq ?_
  refine wp_region_lit ?_
  refine s_val rfl rfl (v_move rfl rfl) ?_
  refine s_val rfl rfl (v_cmp rfl rfl rfl rfl) ?_
  refine wpList_nil ?_
  refine c_split rfl (fun hc9 => ?_) (fun hc9 => ?_)
  · skip
    exfalso
    have := of_decide_eq_true hc9
    omega
  · skip
    skip
    refine wp_skip ?_
    refine wp_seq ?_
    refine wp_region_lit ?_
    refine s_val rfl rfl (v_move rfl rfl) ?_
    refine s_val rfl rfl (v_cmp rfl rfl rfl rfl) ?_
    refine s_val rfl rfl (v_move rfl rfl) ?_
    refine s_fn cx (c102 _ t7 _ (by omega)) Try.func102 rfl rfl rfl rfl rfl rfl ?_; intro q19 w cx hw19 hp19
    obtain ⟨g, u, e, m, rfl, hu⟩ := hp19
    refine s_val rfl rfl (v_move rfl rfl) ?_
    refine s_val rfl rfl (v_extract rfl rfl rfl) ?_
    refine s_val rfl rfl (v_extract rfl rfl rfl) ?_
    refine s_alloc cx z26 rfl rfl rfl ?_; intro b4 w cx hb4 hw4
    refine s_storeAllG cx 0 rfl rfl rfl rfl rfl (l := [.bool g, .string u, .int .i64 e]) rfl sz26 rfl rfl ?_; intro w cx hg4
    refine s_val rfl rfl (v_assign rfl rfl) ?_
    refine wpList_nil ?_
    refine wp_seq ?_
    refine wp_region_lit ?_
    refine s_val rfl rfl (v_load rfl rfl Try.underlying26 rfl sz26 (cx.row 0 rfl) rfl) ?_
    refine s_storeAllG cx 1 rfl rfl rfl rfl rfl rfl sz26 rfl rfl ?_; intro w cx hg5
    refine wpList_nil ?_
    refine wp_ret ?_
    exact ret_cell Try.results69 rfl (cx.at 1 rfl) Try.underlying26 rfl sz26 ⟨cx.ext, _, _, _, rfl, hu⟩

set_option maxRecDepth 10000 in
theorem c68 (g : Bool) (t : ByteArray) (e : Int) (w0 : World) (ht : t.size ≤ 1048576) : Fc Try.prog 68 [.agg #[.bool g, .string t, .int .i64 e]] w0 (fun x _ => ∃ v, x = .agg (nrow v).toArray ∧ Nu v) := by
  refine ret_enter Try.func68 rfl Try.ntmps68 rfl ?_
  have cx := Ctx.start w0
  refine wp_seq ?_
  refine wp_region_lit ?_
  refine s_box (cs := [.bool g, .string t, .int .i64 e]) cx rfl rfl rfl rfl rfl ?_; intro b1 w cx hb1 hw1
  refine s_alloc cx z33 rfl rfl rfl ?_; intro b2 w cx hb2 hw2
  refine wpList_nil ?_
  refine wp_seq ?_
  refine wp_region_lit ?_
  refine s_val rfl rfl (v_load rfl rfl Try.underlying26 rfl sz26 (cx.row 1 rfl) rfl) ?_
  refine s_val rfl rfl (v_build (bd33n _ _ _) rfl rfl) ?_
  refine s_storeAllG cx 0 rfl rfl rfl rfl rfl rfl sz33 rfl (nrow_one _) ?_; intro w cx hg1
  refine wpList_nil ?_
  refine wp_ret ?_
  exact ret_cell Try.results68 rfl (cx.at 0 rfl) Try.underlying33 rfl sz33 ⟨cx.ext, numV g t e, rfl, g, t, e, rfl, ht⟩

set_option maxRecDepth 10000 in
theorem c43 (n : Int) (w0 : World) (h0 : 0 ≤ n) (h1 : n ≤ 9) : Fc Try.prog 43 [.int .i64 n] w0 (fun x _ => ∃ v, x = .agg (nrow v).toArray ∧ Nu v) := by
  refine ret_enter Try.func43 rfl Try.ntmps43 rfl ?_
  have cx := Ctx.start w0
  refine wp_seq ?_
  refine wp_region_lit ?_
  refine s_alloc cx z33 rfl rfl rfl ?_; intro b2 w cx hb2 hw2
  refine wpList_nil ?_
  refine wp_seq ?_
  refine wp_region_lit ?_
  refine s_val rfl rfl (v_move rfl rfl) ?_
  refine s_fn cx (c69 n _ h0 h1) Try.func69 rfl rfl rfl rfl rfl rfl ?_; intro q4 w cx hw4 hp4
  obtain ⟨g, t, e, rfl, ht⟩ := hp4
  refine s_fn cx (c68 g t e _ ht) Try.func68 rfl rfl rfl rfl rfl rfl ?_; intro q5 w cx hw5 hp5
  obtain ⟨v, rfl, hv⟩ := hp5
  refine s_storeAllG cx 0 rfl rfl rfl rfl rfl rfl sz33 rfl (nrow_one _) ?_; intro w cx hg1
  refine wpList_nil ?_
  refine wp_ret ?_
  exact ret_cell Try.results43 rfl (cx.at 0 rfl) Try.underlying33 rfl sz33 ⟨cx.ext, v, rfl, hv⟩
end Go.Proofs.Ytmkihcdcgkdilaa
end
section
namespace Go.Proofs.Ytmkihcdcgkdilaa
open Go Go.Dk Go.RowKit
set_option linter.unusedSimpArgs false
set_option linter.unusedVariables false
attribute [local irreducible] Go.wpList Go.Code.wp Go.bodyPost Go.wpStill Go.wpQuiet
set_option maxRecDepth 10000 in
set_option maxHeartbeats 6400000 in
theorem c15 (la lb : List UInt8) (s1 s2 : Value) (w0 : World) (h1 : RepB (fun b => b < w0.heap.size) w0 s1 la) (h2 : RepB (fun b => b < w0.heap.size) w0 s2 lb) (hla : la.length ≤ 1048576) (hlb : lb.length ≤ 1048576) : Fc Try.prog 15 [s1, s2] w0 (IsB fun b => b = true) := by
  obtain ⟨E, hE⟩ := classic_eqB
  obtain ⟨b1, o1, hsl1, hr1⟩ := h1
  have hO1 := hsl1.form
  obtain ⟨a1, c1, rfl, ha1⟩ := hO1
  obtain ⟨b2, o2, hsl2, hr2⟩ := h2
  have hO2 := hsl2.form
  obtain ⟨a2, c2, rfl, ha2⟩ := hO2
  refine ret_enter Try.func15 rfl Try.ntmps15 rfl ?_
  have cx := Ctx.start w0
  refine wp_seq ?_
  refine wp_region_lit ?_
  refine s_val rfl rfl (v_assign rfl rfl) ?_
  refine wpList_nil ?_
  refine wp_seq ?_
  refine wp_seq ?_
  refine wp_region_lit ?_
  refine s_val rfl rfl (v_move rfl rfl) ?_
  refine s_val rfl rfl (v_lenSlice rfl rfl Try.underlying29) ?_
  refine s_val rfl rfl (v_cmp rfl rfl rfl rfl) ?_
  refine s_val rfl rfl (v_move rfl rfl) ?_
  refine s_gval rfl rfl rfl (by first | exact w_ff rfl | exact w_gf rfl) (fun hc => v_move rfl (by first | exact gve hc rfl | exact gve (and_l hc) rfl | exact gve (and_l (and_l hc)) rfl | rfl)) ?_
  refine s_gval rfl rfl rfl (by first | exact w_ff rfl | exact w_gf rfl) (fun hc => v_lenSlice rfl (by first | exact gve hc rfl | exact gve (and_l hc) rfl | exact gve (and_l (and_l hc)) rfl | rfl) Try.underlying29) ?_
  refine s_gval rfl rfl rfl (by first | exact w_ff rfl | exact w_gf rfl) (fun hc => v_cmp rfl (by first | exact gve hc rfl | exact gve (and_l hc) rfl | exact gve (and_l (and_l hc)) rfl | rfl) rfl rfl) ?_
  refine s_val rfl rfl (v_or rfl rfl rfl rfl) ?_
  refine s_val rfl rfl (v_move rfl rfl) ?_
  refine s_gval rfl rfl rfl (by first | exact w_ff rfl | exact w_gf rfl) (fun hc => v_move rfl (by first | exact gve hc rfl | exact gve (and_l hc) rfl | exact gve (and_l (and_l hc)) rfl | rfl)) ?_
  refine s_gval rfl rfl rfl (by first | exact w_ff rfl | exact w_gf rfl) (fun hc => v_lenSlice rfl (by first | exact gve hc rfl | exact gve (and_l hc) rfl | exact gve (and_l (and_l hc)) rfl | rfl) Try.underlying29) ?_
  refine s_gval rfl rfl rfl (by first | exact w_ff rfl | exact w_gf rfl) (fun hc => v_move rfl (by first | exact gve hc rfl | exact gve (and_l hc) rfl | exact gve (and_l (and_l hc)) rfl | rfl)) ?_
  refine s_gval rfl rfl rfl (by first | exact w_ff rfl | exact w_gf rfl) (fun hc => v_lenSlice rfl (by first | exact gve hc rfl | exact gve (and_l hc) rfl | exact gve (and_l (and_l hc)) rfl | rfl) Try.underlying29) ?_
  refine s_gval rfl rfl rfl (by first | exact w_ff rfl | exact w_gf rfl) (fun hc => v_mulN rfl (gve hc rfl) (gve hc rfl) (Nat.le_trans (Nat.mul_le_mul hla hlb) (by decide))) ?_
  refine s_gval rfl rfl rfl (by first | exact w_ff rfl | exact w_gf rfl) (fun hc => v_cmp rfl (gve hc rfl) rfl rfl) ?_
  refine s_val rfl rfl (v_or rfl rfl rfl rfl) ?_
  refine wpList_nil ?_
  refine c_split rfl (fun hc28 => ?_) (fun hc28 => ?_)
  · skip
    skip
    refine wp_seq ?_
    refine wp_region_lit ?_
    refine s_val rfl rfl (v_assign rfl rfl) ?_
    refine wpList_nil ?_
    refine wp_ret ?_
    refine ret_tmp Try.results15 rfl ?_
    exact ⟨cx.ext, _, rfl, rfl⟩
  · skip
    skip
    have hq := hc28
    simp only [Bool.or_eq_false_iff, decide_eq_false_iff_not] at hq
    obtain ⟨⟨hn1, hn2⟩, hn3⟩ := hq
    have hnm : la.length * lb.length ≤ 40000 := by omega
    refine wp_skip ?_
    refine wp_seq ?_
    refine wp_region_lit ?_
    refine s_val rfl rfl (v_build bd33k6 rfl rfl) ?_
    refine s_val rfl rfl (v_build bd33k6 rfl rfl) ?_
    refine s_alloc cx z33 rfl rfl rfl ?_; intro b5 w cx hb5 hw5
    refine s_alloc cx z33 rfl rfl rfl ?_; intro b6 w cx hb6 hw6
    refine s_storeAllG cx 1 rfl rfl rfl rfl rfl rfl sz33 rfl rfl ?_; intro w cx hg5
    refine s_storeAllG cx 0 rfl rfl rfl rfl rfl rfl sz33 rfl rfl ?_; intro w cx hg6
    refine wpList_nil ?_
    refine wp_seq ?_
    refine wp_seq ?_
    refine wp_region_lit ?_
    replace cx := cx.nilRow 33 13
    refine s_val rfl rfl (v_assign rfl rfl) ?_
    refine wpList_nil ?_
    refine wp_block ?_
    refine w_loop (fun k f w1 => ∃ (i : Nat) (l : List V) (x : Value), k + i = la.length ∧ f 0 = .slice a1 la.length c1 ∧ f 1 = .slice a2 lb.length c2 ∧ f 5 = .pointer (some ⟨b5, 0, none⟩) ∧ f 6 = .pointer (some ⟨b6, 0, none⟩) ∧ f 7 = .int .i64 (i : Nat) ∧ l.length = i ∧ (∀ v ∈ l, Nu v) ∧ Cxr w0 w1 [(b6, .cells (vrow (zk 6) (.slice none 0 0) (.slice none 0 0) (.slice none 0 0)).toArray 33), (b5, .cells (vrow (zk 6) (.slice none 0 0) x (.slice none 0 0)).toArray 33)] [⟨33, 13, x, l.length, l.flatMap nrow⟩]) (la.length) ?_ ?_
    · skip
      exact ⟨0, [], .slice none 0 0, by omega, rfl, rfl, rfl, rfl, rfl, rfl, (fun v hv => by cases hv), cx⟩
    intro gk5 f w hJ
    obtain ⟨i, l, x, hki, hs0, hs1, hs5, hs6, hs7, hli, hNu, cx⟩ := hJ
    refine wp_seq ?_
    refine wp_seq ?_
    refine wp_region_lit ?_
    refine s_val rfl rfl (v_move rfl hs7) ?_
    refine s_val rfl rfl (v_move rfl hs0) ?_
    refine s_val rfl rfl (v_lenSlice rfl rfl Try.underlying29) ?_
    refine s_val rfl rfl (v_cmp rfl rfl rfl rfl) ?_
    refine wpList_nil ?_
    refine c_split rfl (fun hc34 => ?_) (fun hc34 => ?_)
    · skip
      try simp only [Bool.and_eq_true, Bool.or_eq_true, Bool.and_eq_false_iff, Bool.or_eq_false_iff, Bool.not_eq_true', Bool.not_eq_false', decide_eq_true_eq, decide_eq_false_iff_not, beq_iff_eq, beq_eq_false_iff_ne, bne_iff_ne, bne_eq_false_iff_eq, ne_eq, Classical.not_not] at hc34
      have hil : i < la.length := by omega
      have hm0 := Int.tmod_nonneg 4 (show (0 : Int) ≤ (la[i].toNat : Int) by omega)
      have hm1 := Int.tmod_lt_of_pos (la[i].toNat : Int) (show (0 : Int) < 4 by omega)
      have hO3 := ha1 (by omega)
      obtain rfl := hO3
      refine wp_skip ?_
      refine wp_seq ?_
      refine wp_block ?_
      refine w_ord cx (cx.pick1 1 rfl) mixed [(0, 37), (1, 38), (2, 39), (3, 40), (4, 41), (5, 42), (6, 43), (7, 44)] #[true, true, true, true, true, true, true, true, false, false, false, false, false] (by kernel_rfl) (by kernel_rfl) (by kernel_rfl) (by kernel_rfl) ?_
      refine pu_one rfl (wnt_none rfl) (fun w cx => v_fa fa33_6 rfl hs5) ?_
      refine pu_one rfl (wnt_none rfl) (fun w cx => v_load1 rfl rfl Try.underlying30 rfl (cx.cell 0 rfl rfl)) ?_
      refine pu_one rfl (wnt_none rfl) (fun w cx => v_move rfl hs0) ?_
      refine pu_one rfl (wnt_none rfl) (fun w cx => v_move rfl hs7) ?_
      refine pu_one rfl (wnt_none rfl) (fun w cx => v_ia Try.underlying29 sz5 rfl rfl rfl (by omega) (by omega)) ?_
      refine pu_one rfl (wnt_none rfl) (fun w cx => v_load1 rfl rfl Try.underlying5 rfl ((hr1.up cx.ext) (((i : Nat) : Int).toNat * 1) (.int .u8 (la[i].toNat : Int)) (by rw [Int.toNat_natCast, Nat.mul_one]; simp [byteVal, hil]))) ?_
      refine pu_one rfl (wnt_none rfl) (fun w cx => v_rem rfl rfl rfl (by omega)) ?_
      refine pu_one rfl (wnt_none rfl) (fun w cx => v_ofByte rfl rfl Try.underlying5 Try.underlying3 (by omega) (by omega)) ?_
      refine pu_nil ?_; intro w cx hwD7
      refine x_one (i := 8) (by kernel_rfl) rfl ?_
      refine s_fn cx (c43 _ _ (by omega) (by omega)) Try.func43 rfl rfl rfl rfl rfl rfl ?_; intro q45 w cx hw45 hp45
      obtain ⟨u, rfl, hu⟩ := hp45
      refine x_next ⟨.inl (cx.pick1 1 rfl), ?_⟩
      refine x_one (i := 9) (by kernel_rfl) rfl ?_
      refine s_bsl1 cx Try.underlying30 sz33 z33 rfl rfl rfl rfl rfl rfl rfl rfl ?_; intro b46 w cx hb46 hw46
      have hrn : RowAt w b46 0 (nrow u) := cx.row 0 rfl
      replace cx := cx.tl
      refine x_next ⟨.inl (cx.pick1 1 rfl), ?_⟩
      refine x_one (i := 10) (by kernel_rfl) rfl ?_
      refine s_appendG (m := 1) cx ei33 Try.underlying30 rfl rfl rfl rfl rfl hrn rfl (nrow_one _) (by omega) ?_; intro v47 w cx hgr hnw
      refine x_next ⟨.inr (by kernel_rfl), ?_⟩
      refine x_one (i := 11) (by kernel_rfl) rfl ?_
      refine s_val rfl rfl (v_fa fa33_6 rfl hs5) ?_
      refine x_next ⟨.inr (by kernel_rfl), ?_⟩
      refine x_one (i := 12) (by kernel_rfl) rfl ?_
      refine s_store1G (v := v47) cx 1 rfl rfl rfl rfl rfl (own_one cx.head) rfl rfl rfl ?_; intro w cx hgs
      refine x_next ⟨.inr (by kernel_rfl), ?_⟩
      refine x_done (by kernel_rfl) ?_
      refine wp_region_lit ?_
      refine s_val rfl rfl (v_move rfl hs7) ?_
      refine s_val rfl rfl (v_add rfl rfl rfl (by omega) (by omega)) ?_
      refine s_val rfl rfl (v_assign rfl rfl) ?_
      refine wpList_nil ?_
      refine ⟨gk5 - 1, _, by omega, rfl, i + 1, l ++ [u], v47, by omega, hs0, hs1, hs5, hs6, rfl, by rw [List.length_append, hli]; rfl, (fun v hv => by
        rcases List.mem_append.1 hv with h | h
        · exact hNu v h
        · obtain rfl : v = u := by simpa using h
          exact hu), ?_⟩
      have e1 : (l ++ [u]).flatMap nrow = l.flatMap nrow ++ nrow u := by simp
      have e2 : (l ++ [u]).length = l.length + 1 := by simp
      rw [e1, e2]
      exact cx
    · skip
      try simp only [Bool.and_eq_true, Bool.or_eq_true, Bool.and_eq_false_iff, Bool.or_eq_false_iff, Bool.not_eq_true', Bool.not_eq_false', decide_eq_true_eq, decide_eq_false_iff_not, beq_iff_eq, beq_eq_false_iff_ne, bne_iff_ne, bne_eq_false_iff_eq, ne_eq, Classical.not_not] at hc34
      refine wp_exit ?_
      refine wp_seq ?_
      refine wp_seq ?_
      refine wp_region_lit ?_
      replace cx := cx.nilRow 33 13
      refine s_val rfl rfl (v_assign rfl rfl) ?_
      refine wpList_nil ?_
      refine wp_block ?_
      have hll : l.length = la.length := by omega
      have hNl := hNu
      clear hNu
      refine w_loop (fun k f w1 => ∃ (i : Nat) (m : List V) (y : Value), k + i = lb.length ∧ f 0 = .slice a1 la.length c1 ∧ f 1 = .slice a2 lb.length c2 ∧ f 5 = .pointer (some ⟨b5, 0, none⟩) ∧ f 6 = .pointer (some ⟨b6, 0, none⟩) ∧ f 8 = .int .i64 (i : Nat) ∧ m.length = i ∧ (∀ v ∈ m, Nu v) ∧ Cxr w0 w1 [(b6, .cells (vrow (zk 6) (.slice none 0 0) y (.slice none 0 0)).toArray 33), (b5, .cells (vrow (zk 6) (.slice none 0 0) x (.slice none 0 0)).toArray 33)] [⟨33, 13, y, m.length, m.flatMap nrow⟩, ⟨33, 13, x, l.length, l.flatMap nrow⟩]) (lb.length) ?_ ?_
      · skip
        exact ⟨0, [], .slice none 0 0, by omega, hs0, hs1, hs5, hs6, rfl, rfl, (fun v hv => by cases hv), cx⟩
      intro gk9 f w hJ
      obtain ⟨i, m, y, hki, hs0, hs1, hs5, hs6, hs8, hmi, hNu, cx⟩ := hJ
      refine wp_seq ?_
      refine wp_seq ?_
      refine wp_region_lit ?_
      refine s_val rfl rfl (v_move rfl hs8) ?_
      refine s_val rfl rfl (v_move rfl hs1) ?_
      refine s_val rfl rfl (v_lenSlice rfl rfl Try.underlying29) ?_
      refine s_val rfl rfl (v_cmp rfl rfl rfl rfl) ?_
      refine wpList_nil ?_
      refine c_split rfl (fun hc52 => ?_) (fun hc52 => ?_)
      · skip
        try simp only [Bool.and_eq_true, Bool.or_eq_true, Bool.and_eq_false_iff, Bool.or_eq_false_iff, Bool.not_eq_true', Bool.not_eq_false', decide_eq_true_eq, decide_eq_false_iff_not, beq_iff_eq, beq_eq_false_iff_ne, bne_iff_ne, bne_eq_false_iff_eq, ne_eq, Classical.not_not] at hc52
        have hil : i < lb.length := by omega
        have hm0 := Int.tmod_nonneg 4 (show (0 : Int) ≤ (lb[i].toNat : Int) by omega)
        have hm1 := Int.tmod_lt_of_pos (lb[i].toNat : Int) (show (0 : Int) < 4 by omega)
        have hO4 := ha2 (by omega)
        obtain rfl := hO4
        refine wp_skip ?_
        refine wp_seq ?_
        refine wp_block ?_
        refine w_ord cx (cx.pick1 0 rfl) mixed [(0, 55), (1, 56), (2, 57), (3, 58), (4, 59), (5, 60), (6, 61), (7, 62)] #[true, true, true, true, true, true, true, true, false, false, false, false, false] (by kernel_rfl) (by kernel_rfl) (by kernel_rfl) (by kernel_rfl) ?_
        refine pu_one rfl (wnt_none rfl) (fun w cx => v_fa fa33_6 rfl hs6) ?_
        refine pu_one rfl (wnt_none rfl) (fun w cx => v_load1 rfl rfl Try.underlying30 rfl (cx.cell 0 rfl rfl)) ?_
        refine pu_one rfl (wnt_none rfl) (fun w cx => v_move rfl hs1) ?_
        refine pu_one rfl (wnt_none rfl) (fun w cx => v_move rfl hs8) ?_
        refine pu_one rfl (wnt_none rfl) (fun w cx => v_ia Try.underlying29 sz5 rfl rfl rfl (by omega) (by omega)) ?_
        refine pu_one rfl (wnt_none rfl) (fun w cx => v_load1 rfl rfl Try.underlying5 rfl ((hr2.up cx.ext) (((i : Nat) : Int).toNat * 1) (.int .u8 (lb[i].toNat : Int)) (by rw [Int.toNat_natCast, Nat.mul_one]; simp [byteVal, hil]))) ?_
        refine pu_one rfl (wnt_none rfl) (fun w cx => v_rem rfl rfl rfl (by omega)) ?_
        refine pu_one rfl (wnt_none rfl) (fun w cx => v_ofByte rfl rfl Try.underlying5 Try.underlying3 (by omega) (by omega)) ?_
        refine pu_nil ?_; intro w cx hwD11
        refine x_one (i := 8) (by kernel_rfl) rfl ?_
        refine s_fn cx (c43 _ _ (by omega) (by omega)) Try.func43 rfl rfl rfl rfl rfl rfl ?_; intro q63 w cx hw63 hp63
        obtain ⟨u, rfl, hu⟩ := hp63
        refine x_next ⟨.inl (cx.pick1 0 rfl), ?_⟩
        refine x_one (i := 9) (by kernel_rfl) rfl ?_
        refine s_bsl1 cx Try.underlying30 sz33 z33 rfl rfl rfl rfl rfl rfl rfl rfl ?_; intro b64 w cx hb64 hw64
        have hrn : RowAt w b64 0 (nrow u) := cx.row 0 rfl
        replace cx := cx.tl
        refine x_next ⟨.inl (cx.pick1 0 rfl), ?_⟩
        refine x_one (i := 10) (by kernel_rfl) rfl ?_
        refine s_appendG (m := 1) cx ei33 Try.underlying30 rfl rfl rfl rfl rfl hrn rfl (nrow_one _) (by omega) ?_; intro v65 w cx hgr hnw
        refine x_next ⟨.inr (by kernel_rfl), ?_⟩
        refine x_one (i := 11) (by kernel_rfl) rfl ?_
        refine s_val rfl rfl (v_fa fa33_6 rfl hs6) ?_
        refine x_next ⟨.inr (by kernel_rfl), ?_⟩
        refine x_one (i := 12) (by kernel_rfl) rfl ?_
        refine s_store1G (v := v65) cx 0 rfl rfl rfl rfl rfl (own_one cx.head) rfl rfl rfl ?_; intro w cx hgs
        refine x_next ⟨.inr (by kernel_rfl), ?_⟩
        refine x_done (by kernel_rfl) ?_
        refine wp_region_lit ?_
        refine s_val rfl rfl (v_move rfl hs8) ?_
        refine s_val rfl rfl (v_add rfl rfl rfl (by omega) (by omega)) ?_
        refine s_val rfl rfl (v_assign rfl rfl) ?_
        refine wpList_nil ?_
        refine ⟨gk9 - 1, _, by omega, rfl, i + 1, m ++ [u], v65, by omega, hs0, hs1, hs5, hs6, rfl, by rw [List.length_append, hmi]; rfl, (fun v hv => by
          rcases List.mem_append.1 hv with h | h
          · exact hNu v h
          · obtain rfl : v = u := by simpa using h
            exact hu), ?_⟩
        have e1 : (m ++ [u]).flatMap nrow = m.flatMap nrow ++ nrow u := by simp
        have e2 : (m ++ [u]).length = m.length + 1 := by simp
        rw [e1, e2]
        exact cx
      · skip
        try simp only [Bool.and_eq_true, Bool.or_eq_true, Bool.and_eq_false_iff, Bool.or_eq_false_iff, Bool.not_eq_true', Bool.not_eq_false', decide_eq_true_eq, decide_eq_false_iff_not, beq_iff_eq, beq_eq_false_iff_ne, bne_iff_ne, bne_eq_false_iff_eq, ne_eq, Classical.not_not] at hc52
        have hml : m.length = lb.length := by omega
        have hvl : Val w (lstV l) (vrow (zk 6) (.slice none 0 0) x (.slice none 0 0)) := lstV_rep (nums_of_row cx.row2 rfl hNl)
        have hvm : Val w (lstV m) (vrow (zk 6) (.slice none 0 0) y (.slice none 0 0)) := lstV_rep (nums_of_row cx.head rfl hNu)
        have hol := lstV_ok hNl 46
        have hom := lstV_ok hNu 46
        have hfl := lstV_fine hNl (by omega)
        have hfm := lstV_fine hNu (by omega)
        have hnar := lstV_nar hNl hNu (by omega) (by omega) (by rw [hll, hml]; exact hnm) 47
        have hz1 : tsz 48 (lstV l) = 1 + l.length := lstV_sz hNl 47
        have hz2 : tsz 48 (lstV m) = 1 + m.length := lstV_sz hNu 47
        have hbf := btw_few E 48 [] (lstV l) (lstV m) hol
        have hO5 : ∃ B, B = btw E 48 [] (lstV l) (lstV m) := ⟨_, rfl⟩
        obtain ⟨B, hB⟩ := hO5
        have hBg := btw_good E 48 [] (lstV l) (lstV m) hfl hfm
        have hBl : (MkB (btw E 48 [] (lstV l) (lstV m))).length ≤ 1048576 := by
          unfold MkB
          split
          · exact Nat.zero_le _
          · omega
        refine wp_exit ?_
        refine wp_seq ?_
        refine wp_region_lit ?_
        refine s_val rfl rfl (v_load rfl hs5 Try.underlying33 rfl sz33 (cx.row 1 rfl) rfl) ?_
        refine s_val rfl rfl (v_load rfl hs6 Try.underlying33 rfl sz33 (cx.row 0 rfl) rfl) ?_
        refine s_fn cx (c40 E hE (lstV l) (lstV m) _ _ _ hvl hvm hol hom hfl hfm hnar (by omega)) Try.func40 rfl rfl rfl rfl rfl rfl ?_; intro q70 w cx hw70 hp70
        obtain ⟨t1, rfl, ht1⟩ := hp70
        refine s_val rfl rfl (v_move rfl rfl) ?_
        refine s_val rfl rfl (v_extract rfl rfl rfl) ?_
        refine s_val rfl rfl (v_extract rfl rfl rfl) ?_
        refine s_val rfl rfl (v_assign rfl rfl) ?_
        refine s_val rfl rfl (v_assign rfl rfl) ?_
        refine wpList_nil ?_
        refine wp_seq ?_
        refine wp_region_lit ?_
        refine s_val rfl rfl (v_load rfl hs5 Try.underlying33 rfl sz33 (cx.row 1 rfl) rfl) ?_
        refine s_val rfl rfl (v_load rfl hs6 Try.underlying33 rfl sz33 (cx.row 0 rfl) rfl) ?_
        refine s_fn cx (c41 E hE (lstV l) (lstV m) _ _ _ (hvl.up hw70) (hvm.up hw70) hol hom hfl hfm hnar (by omega)) Try.func41 rfl rfl rfl rfl rfl rfl ?_; intro q76 w cx hw76 hp76
        obtain ⟨t2, rfl, ht2⟩ := hp76
        replace ht1 := ht1.up hw76
        rw [← hB] at ht1 ht2 hBl hBg ⊢
        refine s_val rfl rfl (v_move rfl rfl) ?_
        refine s_val rfl rfl (v_extract rfl rfl rfl) ?_
        refine s_val rfl rfl (v_extract rfl rfl rfl) ?_
        refine s_val rfl rfl (v_assign rfl rfl) ?_
        refine s_val rfl rfl (v_assign rfl rfl) ?_
        refine wpList_nil ?_
        refine wp_seq ?_
        refine wp_region_lit ?_
        refine s_val rfl rfl (v_move rfl rfl) ?_
        refine s_val rfl rfl (v_move rfl rfl) ?_
        refine s_val rfl rfl (v_cmp rfl rfl rfl rfl) ?_
        refine s_val rfl rfl (v_move rfl rfl) ?_
        refine s_gval rfl rfl rfl (by first | exact w_tt rfl | exact w_gt rfl) (fun hc => v_move rfl (by first | exact gve hc rfl | exact gve (and_l hc) rfl | exact gve (and_l (and_l hc)) rfl | rfl)) ?_
        refine s_gval rfl rfl rfl (by first | exact w_tt rfl | exact w_gt rfl) (fun hc => v_move rfl (by first | exact gve hc rfl | exact gve (and_l hc) rfl | exact gve (and_l (and_l hc)) rfl | rfl)) ?_
        refine s_gfnB cx rfl rfl rfl (by first | exact w_tt rfl | exact w_gt rfl) (fun hc => c42 (MkB B) _ _ _ ht1 ht2 hBl (fun c hc => by
          have := hBg c (mkB_mem hc)
          refine ⟨?_, this.2⟩
          have h9 := this.1
          simp at h9
          omega)) Try.func42 rfl rfl rfl (fun hc => cons_eq (gve hc rfl) (cons_eq (gve hc rfl) rfl)) ?_; intro q85 w cx hw85 hp85
        refine s_val rfl rfl (v_and rfl rfl rfl rfl) ?_
        refine s_val rfl rfl (v_assign rfl rfl) ?_
        refine wpList_nil ?_
        refine wp_ret ?_
        refine ret_tmp Try.results15 rfl ?_
        refine ⟨cx.ext, _, rfl, ?_⟩
        show ((MkE B == MkE B) && q85) = true
        rw [hp85 (by show (MkE B == MkE B) = true; rw [beq_self_eq_true]), beq_self_eq_true]; rfl
end Go.Proofs.Ytmkihcdcgkdilaa
end
section
namespace Go.Proofs.Ytmkihcdcgkdilaa.diffLong
open Go Go.Dk Go.ChangeShapes Go.WideShapes Go.ChangeAt Go.RowKit
set_option linter.unusedVariables false

theorem own : ownKnob Try.prog.godebug = none := by kernel_rfl
theorem laidOut : laidOutB Try.prog = true := by kernel_rfl

set_option maxRecDepth 100000 in
theorem lifted (os : Os) (started : os.Started) (H : Type) (enc : TypeId × Value → H) (F : Stop.Interp) :
    ReturnsInHanded {} Try.checked os 15 .any ((Rows.OpenSpec.upto Rows.diffLongSpec).pre6 enc Try.prog Try.f15 Rows.diffLongUptoRow.domain false) (((Rows.OpenSpec.upto Rows.diffLongSpec).at F).post enc Try.prog Try.f15 false true false false) := by
  refine returnsInHanded_of_cond (C := Try.checked) (s := Rows.OpenSpec.upto Rows.diffLongSpec) (k := Rows.uptoSmall) rfl own started (by kernel_rfl) Try.func15
    (OpenSpec.witness (enc := enc) (C := Try.checked) (s := Rows.OpenSpec.upto Rows.diffLongSpec) (k := Rows.uptoSmall) rfl false ⟨#[], #[.slice none 0 0, .slice none 0 0], []⟩ 8 (by kernel_rfl) (by kernel_rfl) (by kernel_rfl)
      (x := ([.nil, .nil], [], [])) (by kernel_rfl) rfl (by kernel_rfl)) ?_
  intro W base args ds gs before hval hW _ hk _
  have hW' := hW
  obtain ⟨p, q, hA0, hV, rfl, hfz, hnd⟩ := hW
  have hA : DataW.TrodAll enc Try.prog W 0 (fun _ => true) true Try.f15.params.toList args.toList ds p := hA0
  rw [Try.params15] at hA hval
  obtain ⟨v0, vs0, d0, ds0, p0, q0, hargs, rfl, rfl, h0, r0⟩ := trodAll_cons hA
  obtain ⟨v1, vs1, d1, ds1, p1, q1, rfl, rfl, rfl, h1, r1⟩ := trodAll_cons r0
  obtain ⟨rfl, rfl, rfl⟩ := trodAll_nil r1
  obtain rfl : args = #[v0, v1] := by cases args; simp_all
  obtain ⟨rfl, rfl⟩ := trodVars_none hV
  have k0 := h0
  have lt0 : ∀ x ∈ p0, x.block < W.heap.size := by obtain ⟨m, hm⟩ := k0; exact DataW.trod_lt m _ _ _ hm
  obtain ⟨m0, t0⟩ := h0
  have k1 := h1
  have lt1 : ∀ x ∈ p1, x.block < W.heap.size := by obtain ⟨m, hm⟩ := k1; exact DataW.trod_lt m _ _ _ hm
  obtain ⟨m1, t1⟩ := h1
  have hbulk : Rows.uptoBulk d0 + Rows.uptoBulk d1 ≤ 1048576 := by
    have := of_decide_eq_true hk
    simp only [List.append_nil, Rows.uptoBulkAll] at this
    omega
  obtain ⟨s0, l0, e0, hr0, hl0⟩ := rd_bytes Try.underlying29 t0
  obtain ⟨a0, len0, cap0, rfl⟩ := okWide_slice Try.underlying29 (hval 0 29 v0 rfl rfl)
  obtain rfl : _ = s0 := by simpa [Value.cells] using e0
  have hb0 : l0.length ≤ 1048576 := by
    have : l0.length ≤ Rows.uptoBulk d0 := hl0
    omega
  obtain ⟨s1, l1, e1, hr1, hl1⟩ := rd_bytes Try.underlying29 t1
  obtain ⟨a1, len1, cap1, rfl⟩ := okWide_slice Try.underlying29 (hval 1 29 v1 rfl rfl)
  obtain rfl : _ = s1 := by simpa [Value.cells] using e1
  have hb1 : l1.length ≤ 1048576 := by
    have : l1.length ≤ Rows.uptoBulk d1 := hl1
    omega
  clear hA0
  refine Calls.mono (c15 l0 l1 _ _ W hr0 hr1 hb0 hb1) fun e W' ⟨r, he, bel, b, hr, hb⟩ => ?_
  subst hr hb he
  exact ⟨_, rfl, _, _, _, [], _, [], hW', trodAll_mk1 (shut_bool Try.underlying4 _), (trodAll_cons_mk (Below.trod laidOut (by kernel_rfl) (of_decide_eq_true (by kernel_rfl)) k0 bel lt0) (trodAll_cons_mk (Below.trod laidOut (by kernel_rfl) (of_decide_eq_true (by kernel_rfl)) k1 bel lt1) trodAll_mk0)), rfl, bel.frame _, fun h => by cases h⟩

theorem over : Rows.diffLongUptoRow.holds Try.pinned (Rows.OpenSpec.upto Rows.diffLongSpec) :=
  OpenClaim.holds_of_cond 15 Try.f15 rfl rfl rfl rfl rfl rfl rfl ⟨rfl, rfl, rfl, rfl, rfl⟩ rfl rfl rfl rfl rfl (by kernel_rfl) Try.func15 (by kernel_rfl)
    (of_decide_eq_true (by kernel_rfl)) (by unfold Func.isWrapper; first | (rw [if_pos (by decide +kernel)]; kernel_rfl) | (rw [if_neg (by decide +kernel)]; exact ⟨rfl, rfl⟩))
    (fun os started H enc _ F => lifted os started H enc F)

theorem proved : Rows.DiffLongUptoSaid := over
end Go.Proofs.Ytmkihcdcgkdilaa.diffLong
end
