/-
  The program: the text of a path.
-/
import Derived.Test.YthiafbkolhnadaaGreatDoorGg
set_option linter.unusedSimpArgs false
set_option linter.unusedVariables false
namespace Go.Proofs.YthiafbkolhnadaaGreatDoor
open Go Go.Dk Go.RowKit Go.Lib
attribute [local irreducible] Go.wpList Go.Code.wp Go.bodyPost Go.wpStill Go.wpQuiet
set_option maxHeartbeats 4000000 in
set_option maxRecDepth 10000 in
theorem c41 (u : Value) (l : List Stp) (w0 : World) (hv : Pth w0 u l) (hg : ∀ s ∈ l, GdS s) (hl : l.length ≤ 48) (ht : Tabs w0) : Fc Tryz.prog 41 [u] w0 (fun v _ => v = .string (bs (pathT l))) := by
  obtain ⟨a, c, b, o, rfl, ha, hr⟩ := hv.form
  refine ret_enter Tryz.func41 rfl Tryz.ntmps41 rfl ?_
  have cx := Ctx.start w0
  refine wp_seq ?_
  refine wp_region_lit ?_
  refine s_val rfl rfl (v_assign rfl rfl) ?_
  refine wpList_nil ?_
  refine wp_seq ?_
  refine wp_seq ?_
  refine wp_region_lit ?_
  refine s_val rfl rfl (v_move rfl rfl) ?_
  refine s_val rfl rfl (v_lenSlice rfl rfl Tryz.underlying28) ?_
  refine s_val rfl rfl (v_cmp rfl rfl rfl rfl) ?_
  refine wpList_nil ?_
  refine c_split rfl (fun hc8 => ?_) (fun hc8 => ?_)
  · skip
    try simp only [Bool.and_eq_true, Bool.or_eq_true, Bool.and_eq_false_iff, Bool.or_eq_false_iff, Bool.not_eq_true', Bool.not_eq_false', decide_eq_true_eq, decide_eq_false_iff_not, beq_iff_eq, beq_eq_false_iff_ne, bne_iff_ne, bne_eq_false_iff_eq, ne_eq, Classical.not_not] at hc8
    refine wp_seq ?_
    refine wp_region_lit ?_
    refine s_val rfl rfl (v_assign rfl rfl) ?_
    refine wpList_nil ?_
    refine wp_ret ?_
    refine ret_tmp Tryz.results41 rfl ?_
    have e : l = [] := List.eq_nil_of_length_eq_zero (by omega)
    subst e
    exact ⟨cx.ext, rfl⟩
  · skip
    try simp only [Bool.and_eq_true, Bool.or_eq_true, Bool.and_eq_false_iff, Bool.or_eq_false_iff, Bool.not_eq_true', Bool.not_eq_false', decide_eq_true_eq, decide_eq_false_iff_not, beq_iff_eq, beq_eq_false_iff_ne, bne_iff_ne, bne_eq_false_iff_eq, ne_eq, Classical.not_not] at hc8
    refine wp_skip ?_
    refine wp_seq ?_
    refine wp_region_lit ?_
    have hne : l ≠ [] := by rintro rfl; simp at hc8
    have hpos : 0 < l.length := List.length_pos_iff.2 hne
    obtain ⟨x0, hx0⟩ : ∃ x, l[0]? = some x := ⟨l[0]'hpos, List.getElem?_eq_getElem _⟩
    have hr0 := hr 0 x0 hx0
    obtain rfl := ha hpos
    replace cx := cx.nilRow 5 1
    refine s_val rfl rfl (v_assign rfl rfl) ?_
    refine wpList_nil ?_
    refine w_cut (fun f w1 => ∃ v, f 0 = .slice (some ⟨b, o, none⟩) l.length c ∧ f 3 = v ∧ Cxr w0 w1 [] [⟨5, 1, v, (ldp l).length, (ldp l).map bv⟩]) ?_ ?_
    · skip
      refine wp_seq ?_
      refine wp_region_lit ?_
      refine s_val rfl rfl (v_move rfl rfl) ?_
      refine s_val rfl rfl (v_ia Tryz.underlying28 sz107 rfl rfl rfl (by omega) (by omega)) ?_
      refine s_val rfl rfl (v_fa fa107_0 rfl rfl) ?_
      refine s_val rfl rfl (v_load1 rfl rfl Tryz.underlying4 rfl ((hr0.up cx.ext).cell 0 rfl)) ?_
      refine wpList_nil ?_
      refine c_split rfl (fun hc12 => ?_) (fun hc12 => ?_)
      · skip
        try simp only [Bool.and_eq_true, Bool.or_eq_true, Bool.and_eq_false_iff, Bool.or_eq_false_iff, Bool.not_eq_true', Bool.not_eq_false', decide_eq_true_eq, decide_eq_false_iff_not, beq_iff_eq, beq_eq_false_iff_ne, bne_iff_ne, bne_eq_false_iff_eq, ne_eq, Classical.not_not] at hc12
        refine wp_region_lit ?_
        refine s_val rfl rfl (v_move rfl rfl) ?_
        refine s_bsl1 cx Tryz.underlying79 sz5 z5 rfl rfl rfl rfl rfl rfl rfl rfl ?_; intro b14 w cx hb14 hw14
        refine s_append cx ei5 Tryz.underlying79 rfl rfl rfl rfl rfl (cx.row 0 rfl) rfl rfl (by omega) ?_; intro v15 w cx hgr15
        replace cx := cx.drop 1
        refine s_val rfl rfl (v_assign rfl rfl) ?_
        refine wpList_nil ?_
        first | exact ⟨_, rfl, _, rfl, rfl, cx.row_eq (by rw [ldp_T hx0 hc12]; rfl) (by rw [ldp_T hx0 hc12]; rfl)⟩ | exact ⟨_, rfl, _, rfl, rfl, cx.row_eq (by rw [ldp_F hx0 hc12]; rfl) (by rw [ldp_F hx0 hc12]; rfl)⟩
      · skip
        try simp only [Bool.and_eq_true, Bool.or_eq_true, Bool.and_eq_false_iff, Bool.or_eq_false_iff, Bool.not_eq_true', Bool.not_eq_false', decide_eq_true_eq, decide_eq_false_iff_not, beq_iff_eq, beq_eq_false_iff_ne, bne_iff_ne, bne_eq_false_iff_eq, ne_eq, Classical.not_not] at hc12
        refine wp_skip ?_
        first | exact ⟨_, rfl, _, rfl, rfl, cx.row_eq (by rw [ldp_T hx0 hc12]; rfl) (by rw [ldp_T hx0 hc12]; rfl)⟩ | exact ⟨_, rfl, _, rfl, rfl, cx.row_eq (by rw [ldp_F hx0 hc12]; rfl) (by rw [ldp_F hx0 hc12]; rfl)⟩
    intro f w hJ
    obtain ⟨v, hs0, hs3, cx⟩ := hJ
    refine wp_seq ?_
    refine wp_seq ?_
    refine wp_region_lit ?_
    refine s_val rfl rfl (v_move rfl hs0) ?_
    refine s_val rfl rfl (v_lenSlice rfl rfl Tryz.underlying28) ?_
    refine s_val rfl rfl (v_move rfl rfl) ?_
    refine wpList_nil ?_
    refine wp_block ?_
    refine w_loop (fun k f w1 => ∃ (i : Nat) (v : Value), k + i = l.length ∧ f 16 = .slice (some ⟨b, o, none⟩) l.length c ∧ f 17 = .int .i64 l.length ∧ f 18 = .int .i64 i ∧ f 3 = v ∧ Cxr w0 w1 [] [⟨5, 1, v, (ldp l ++ (l.take i).flatMap stpT).length, (ldp l ++ (l.take i).flatMap stpT).map bv⟩]) (l.length) ?_ ?_
    · skip
      exact ⟨0, _, by omega, rfl, rfl, rfl, hs3, cx.row_eq (by simp) (by simp)⟩
    intro gk7 f w hJ
    obtain ⟨i, v, hk, hs16, hs17, hs18, hs3, cx⟩ := hJ
    refine wp_seq ?_
    refine wp_region_lit ?_
    refine s_val rfl rfl (v_cmp rfl hs18 hs17 rfl) ?_
    refine wpList_nil ?_
    refine wp_seq ?_
    refine c_split rfl (fun hc19 => ?_) (fun hc19 => ?_)
    · skip
      try simp only [Bool.and_eq_true, Bool.or_eq_true, Bool.and_eq_false_iff, Bool.or_eq_false_iff, Bool.not_eq_true', Bool.not_eq_false', decide_eq_true_eq, decide_eq_false_iff_not, beq_iff_eq, beq_eq_false_iff_ne, bne_iff_ne, bne_eq_false_iff_eq, ne_eq, Classical.not_not] at hc19
      obtain ⟨x, hx⟩ : ∃ x, l[i]? = some x := ⟨l[i]'(by omega), List.getElem?_eq_getElem _⟩
      have hrw := hr i x hx
      have hgx := hg x (List.mem_of_getElem? hx)
      have hll := ldp_le l
      have hfl := flat_len (l := l.take i) (fun y hy => hg y (List.mem_of_mem_take hy))
      rw [List.length_take] at hfl
      have hsl := stepT_len hgx
      have hqx := qtd_len x.key.data.toList
      have hkx : x.key.data.toList.length = x.key.size := by simp
      refine wp_skip ?_
      refine wp_seq ?_
      refine wp_block ?_
      refine wp_seq ?_
      refine wp_region_lit ?_
      refine s_val rfl rfl (v_ia Tryz.underlying28 sz107 rfl hs16 hs18 (by omega) (by omega)) ?_
      refine s_val rfl rfl (v_load rfl rfl Tryz.underlying107 rfl sz107 (hrw.up cx.ext) rfl) ?_
      refine s_alloc cx z107 rfl rfl rfl ?_; intro b5 w cx hb5 hw5
      refine s_storeAll cx 0 rfl rfl rfl rfl rfl rfl sz107 rfl rfl ?_; intro w cx hwS
      refine wpList_nil ?_
      refine wp_block ?_
      refine wp_seq ?_
      refine wp_region_lit ?_
      refine s_val rfl rfl (v_fa fa107_0 rfl rfl) ?_
      refine s_val rfl rfl (v_load1 rfl rfl Tryz.underlying4 rfl (cx.cell 0 rfl rfl)) ?_
      refine s_val rfl rfl (v_assign rfl rfl) ?_
      refine wpList_nil ?_
      refine c_split rfl (fun hc28 => ?_) (fun hc28 => ?_)
      · skip
        try simp only [Bool.and_eq_true, Bool.or_eq_true, Bool.and_eq_false_iff, Bool.or_eq_false_iff, Bool.not_eq_true', Bool.not_eq_false', decide_eq_true_eq, decide_eq_false_iff_not, beq_iff_eq, beq_eq_false_iff_ne, bne_iff_ne, bne_eq_false_iff_eq, ne_eq, Classical.not_not] at hc28
        have hix := hgx.1 hc28
        have hil := itoa_le hix.1 (by omega)
        refine wp_region_lit ?_
        refine s_val rfl rfl (v_move rfl hs3) ?_
        refine s_val rfl rfl (v_fa fa107_2 rfl rfl) ?_
        refine s_val rfl rfl (v_load1 rfl rfl Tryz.underlying3 rfl (cx.cell 0 rfl rfl)) ?_
        refine s_fn cx (c47 _ _ (ht.up cx.ext) (by omega) (by omega)) Tryz.func47 rfl rfl rfl rfl rfl rfl ?_; intro q34 w cx hw34 hp34
        subst hp34
        refine s_val rfl rfl (v_strAddB rfl rfl rfl (by simp only [List.length_append, List.length_cons, List.length_nil]; omega)) ?_
        refine s_val rfl rfl (v_strAddB rfl rfl rfl (by simp only [List.length_append, List.length_cons, List.length_nil]; omega)) ?_
        refine s_appendB cx ei8 Tryz.underlying79 Tryz.underlying9 rfl rfl rfl rfl rfl (by simp only [List.length_append, List.length_cons, List.length_nil] at hfl hll ⊢; omega) ?_; intro v37 w cx hgr37
        refine s_val rfl rfl (v_assign rfl rfl) ?_
        refine wpList_nil ?_
        refine wp_region_lit ?_
        refine s_val rfl rfl (v_add rfl hs18 rfl (by omega) (by omega)) ?_
        refine s_val rfl rfl (v_move rfl rfl) ?_
        refine wpList_nil ?_
        have hsg := step_ix hc28
        have hq : ldp l ++ (l.take (i + 1)).flatMap stpT = (ldp l ++ (l.take i).flatMap stpT) ++ stpT x := by rw [flat_take l i x hx, List.append_assoc]
        rw [hsg] at hq
        refine ⟨gk7 - 1, _, by omega, rfl, i + 1, _, by omega, hs16, hs17, rfl, rfl, row_more (cx.drop 1) hq ?_ ?_⟩
        · simp only [List.length_append, List.length_cons, List.length_nil] <;> omega
        · exact congrArg (fun z => (ldp l ++ (l.take i).flatMap stpT).map bv ++ z) rfl
      · skip
        try simp only [Bool.and_eq_true, Bool.or_eq_true, Bool.and_eq_false_iff, Bool.or_eq_false_iff, Bool.not_eq_true', Bool.not_eq_false', decide_eq_true_eq, decide_eq_false_iff_not, beq_iff_eq, beq_eq_false_iff_ne, bne_iff_ne, bne_eq_false_iff_eq, ne_eq, Classical.not_not] at hc28
        have hkl := hgx.2 hc28
        refine wp_seq ?_
        refine w_quiet cx mixed (by kernel_rfl) ?_
        refine q_val rfl rfl (fun w cx hwQ => v_fa fa107_1 rfl rfl) ?_
        refine q_val rfl rfl (fun w cx hwQ => v_load1 rfl rfl Tryz.underlying9 rfl (cx.cell 0 rfl rfl)) ?_
        refine q_val rfl rfl (fun w cx hwQ => v_strNe rfl rfl rfl) ?_
        refine q_val rfl rfl (fun w cx hwQ => v_move rfl rfl) ?_
        refine q_gval rfl rfl rfl (by exact w_tt rfl) (fun hc w cx hwQ => v_fa fa107_1 rfl rfl) ?_
        refine q_gval rfl rfl rfl (by exact w_tt rfl) (fun hc w cx hwQ => v_load1 rfl (gve hc rfl) Tryz.underlying9 rfl (cx.cell 0 rfl rfl)) ?_
        refine q_gcall rfl rfl rfl (by exact w_tt rfl) (fun hc => runs_fn Tryz.func93 rfl rfl rfl (cons_eq (gve hc rfl) rfl)) (fun hc w cx hwQ => c93 x.key w (by omega)) ?_
        refine q_gval rfl rfl rfl (by exact w_tt rfl) (fun hc w cx hwQ => v_fa fa107_1 rfl rfl) ?_
        refine q_gval rfl rfl rfl (by exact w_tt rfl) (fun hc w cx hwQ => v_load1 rfl (gve hc rfl) Tryz.underlying9 rfl (cx.cell 0 rfl rfl)) ?_
        refine q_gval rfl rfl rfl (by exact w_tt rfl) (fun hc w cx hwQ => v_lenString rfl (gve hc rfl) Tryz.underlying9) ?_
        refine q_gval rfl rfl rfl (by exact w_tt rfl) (fun hc w cx hwQ => v_cmp rfl (gve hc rfl) (gve hc rfl) rfl) ?_
        refine q_val rfl rfl (fun w cx hwQ => v_and rfl rfl rfl rfl) ?_
        refine q_val rfl rfl (fun w cx hwQ => v_assign rfl rfl) ?_
        refine q_nil ?_; rintro w ⟨cx, hwQ12⟩
        refine c_split rfl (fun hc38 => ?_) (fun hc38 => ?_)
        · skip
          try simp only [Bool.and_eq_true, Bool.or_eq_true, Bool.and_eq_false_iff, Bool.or_eq_false_iff, Bool.not_eq_true', Bool.not_eq_false', decide_eq_true_eq, decide_eq_false_iff_not, beq_iff_eq, beq_eq_false_iff_ne, bne_iff_ne, bne_eq_false_iff_eq, ne_eq, Classical.not_not] at hc38
          have hnm := (nm_iff x.key).1 hc38
          refine wp_region_lit ?_
          refine s_val rfl rfl (v_move rfl hs3) ?_
          refine s_val rfl rfl (v_fa fa107_1 rfl rfl) ?_
          refine s_val rfl rfl (v_load1 rfl rfl Tryz.underlying9 rfl (cx.cell 0 rfl rfl)) ?_
          refine s_val rfl rfl (v_strAddB (a := [46]) (b := x.key.data.toList) rfl rfl rfl (by simp only [List.length_cons, List.length_nil]; omega)) ?_
          refine s_appendB cx ei8 Tryz.underlying79 Tryz.underlying9 rfl rfl rfl rfl rfl (by simp only [List.length_append, List.length_cons, List.length_nil] at hfl hll ⊢; omega) ?_; intro v55 w cx hgr55
          refine s_val rfl rfl (v_assign rfl rfl) ?_
          refine wpList_nil ?_
          refine wp_region_lit ?_
          refine s_val rfl rfl (v_add rfl hs18 rfl (by omega) (by omega)) ?_
          refine s_val rfl rfl (v_move rfl rfl) ?_
          refine wpList_nil ?_
          have hsg := step_nm hc28 hnm
          have hq : ldp l ++ (l.take (i + 1)).flatMap stpT = (ldp l ++ (l.take i).flatMap stpT) ++ stpT x := by rw [flat_take l i x hx, List.append_assoc]
          rw [hsg] at hq
          refine ⟨gk7 - 1, _, by omega, rfl, i + 1, _, by omega, hs16, hs17, rfl, rfl, row_more (cx.drop 1) hq ?_ ?_⟩
          · simp only [List.length_append, List.length_cons, List.length_nil] <;> omega
          · exact congrArg (fun z => (ldp l ++ (l.take i).flatMap stpT).map bv ++ z) rfl
        · skip
          try simp only [Bool.and_eq_true, Bool.or_eq_true, Bool.and_eq_false_iff, Bool.or_eq_false_iff, Bool.not_eq_true', Bool.not_eq_false', decide_eq_true_eq, decide_eq_false_iff_not, beq_iff_eq, beq_eq_false_iff_ne, bne_iff_ne, bne_eq_false_iff_eq, ne_eq, Classical.not_not] at hc38
          have hnm : ¬ isNm x.key := fun h => by have := (nm_iff x.key).2 h; rcases hc38 with h | h; exact this.1 h; exact h this.2
          refine wp_region_lit ?_
          refine s_val rfl rfl (v_move rfl hs3) ?_
          refine s_val rfl rfl (v_fa fa107_1 rfl rfl) ?_
          refine s_val rfl rfl (v_load1 rfl rfl Tryz.underlying9 rfl (cx.cell 0 rfl rfl)) ?_
          refine s_fn cx (c94 _ _ (by omega) (ht.up cx.ext)) Tryz.func94 rfl rfl rfl rfl rfl rfl ?_; intro q25 w cx hw25 hp25
          subst hp25
          refine s_val rfl rfl (v_strAddB rfl rfl rfl (by simp only [List.length_append, List.length_cons, List.length_nil]; omega)) ?_
          refine s_appendB cx ei8 Tryz.underlying79 Tryz.underlying9 rfl rfl rfl rfl rfl (by simp only [List.length_append, List.length_cons, List.length_nil] at hfl hll ⊢; omega) ?_; intro v27 w cx hgr27
          refine s_val rfl rfl (v_assign rfl rfl) ?_
          refine wpList_nil ?_
          refine wp_region_lit ?_
          refine s_val rfl rfl (v_add rfl hs18 rfl (by omega) (by omega)) ?_
          refine s_val rfl rfl (v_move rfl rfl) ?_
          refine wpList_nil ?_
          have hsg := step_qt hc28 hnm
          have hq : ldp l ++ (l.take (i + 1)).flatMap stpT = (ldp l ++ (l.take i).flatMap stpT) ++ stpT x := by rw [flat_take l i x hx, List.append_assoc]
          rw [hsg] at hq
          refine ⟨gk7 - 1, _, by omega, rfl, i + 1, _, by omega, hs16, hs17, rfl, rfl, row_more (cx.drop 1) hq ?_ ?_⟩
          · simp only [List.length_append, List.length_cons, List.length_nil] <;> omega
          · exact congrArg (fun z => (ldp l ++ (l.take i).flatMap stpT).map bv ++ z) rfl
    · skip
      try simp only [Bool.and_eq_true, Bool.or_eq_true, Bool.and_eq_false_iff, Bool.or_eq_false_iff, Bool.not_eq_true', Bool.not_eq_false', decide_eq_true_eq, decide_eq_false_iff_not, beq_iff_eq, beq_eq_false_iff_ne, bne_iff_ne, bne_eq_false_iff_eq, ne_eq, Classical.not_not] at hc19
      refine wp_exit ?_
      refine wp_seq ?_
      refine wp_region_lit ?_
      have hi : i = l.length := by omega
      subst hi
      rw [List.take_length] at cx
      have hpl : 0 < (ldp l ++ l.flatMap stpT).length := by rw [← path_ldp hne]; exact path_pos l
      obtain ⟨g57, c57, rfl, hrow57⟩ := cx.bytes (l := ldp l ++ l.flatMap stpT) rfl rfl hpl
      refine s_val rfl rfl (v_move rfl hs3) ?_
      refine s_val rfl rfl (v_b2s rfl Tryz.underlying79 Tryz.underlying5 Tryz.underlying9 (ns := (ldp l ++ l.flatMap stpT).map fun x : UInt8 => (x.toNat : Int)) (by rw [List.map_map]; exact hrow57) (by rw [List.length_map]) rfl) ?_
      refine s_val rfl rfl (v_assign rfl rfl) ?_
      refine wpList_nil ?_
      refine wp_ret ?_
      refine ret_tmp Tryz.results41 rfl ?_
      exact ⟨cx.ext, congrArg Value.string ((strOf_bs _).trans (congrArg bs (path_ldp hne).symm))⟩

end Go.Proofs.YthiafbkolhnadaaGreatDoor
