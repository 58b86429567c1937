/-
  The entry of a path.
-/
import Derived.Test.YthiafbkolhnadaaGreatDoorGk
import Derived.Test.YthiafbkolhnadaaGreatDoorGl
set_option linter.unusedSimpArgs false
set_option linter.unusedVariables false
namespace Go.Proofs.YthiafbkolhnadaaGreatDoor
open Go Go.Dk Go.RowKit Go.Lib
attribute [local irreducible] Go.wpList Go.Code.wp Go.bodyPost Go.wpStill Go.wpQuiet
theorem bd48 (w : World) : (Instr.build 48 ([] : List (Nat × Value)).toArray).run Tryz.prog w = .ok (.agg #[.int .i64 0, .int .i64 0]) w := by
  go_simp
theorem bd52 (w : World) : (Instr.build 52 ([] : List (Nat × Value)).toArray).run Tryz.prog w = .ok (.agg #[.slice none 0 0, .int .i64 0, .int .i64 0]) w := by
  go_simp
theorem bd52f (a : Option Addr) (n c : Nat) (p q : Int) (w : World) : (Instr.build 52 ([(0, .slice a n c), (1, .agg #[.int .i64 p, .int .i64 q])] : List (Nat × Value)).toArray).run Tryz.prog w = .ok (.agg #[.slice a n c, .int .i64 p, .int .i64 q]) w := by
  go_simp
theorem eqb (p q : Bool) (w : World) : (binOp .eql 4 (.bool p) (.bool q)).run Tryz.prog w = .ok (.bool (p == q)) w := by
  go_simp
set_option maxHeartbeats 4000000 in
set_option maxRecDepth 10000 in
theorem c16 (r : List Value) (x : Idx) (v : Value) (l : List Stp) (w0 : World) (hx : IdxV w0 x r) (hq : Pth w0 v l) (hs : Szd x) (hl : l.length ≤ 1048576) : Fc Tryz.prog 16 [.agg r.toArray, v] w0 (fun u _ => u = lookV x.ents l) := by
  obtain ⟨ve, vc, rfl, hE, hC⟩ := hx
  obtain ⟨a, c, b, o, rfl, ha, hr⟩ := hE.form
  obtain ⟨a2, c2, b2, o2, rfl, _, _⟩ := hC.form
  obtain ⟨qa, qc, rfl, hqc⟩ := hq.sl
  have hel := hs.el
  refine ret_enter Tryz.func16 rfl Tryz.ntmps16 rfl ?_
  have cx := Ctx.start w0
  refine wp_seq ?_
  refine wp_region_lit ?_
  refine s_box cx rfl rfl rfl rfl rfl ?_; intro b2 w cx hb2 hw2
  refine s_alloc cx z48 rfl rfl rfl ?_; intro b4 w cx hb4 hw4
  refine s_val rfl rfl (v_assign rfl rfl) ?_
  refine wpList_nil ?_
  refine wp_seq ?_
  refine wp_seq ?_
  refine wp_region_lit ?_
  refine s_val rfl rfl (v_fa fa35_3 rfl rfl) ?_
  refine s_val rfl rfl (v_load1 rfl rfl Tryz.underlying32 rfl (cx.cell 1 rfl rfl)) ?_
  refine s_val rfl rfl (v_lenSlice rfl rfl Tryz.underlying32) ?_
  refine s_val rfl rfl (v_move rfl rfl) ?_
  refine wpList_nil ?_
  refine wp_block ?_
  refine w_loop (fun k f w1 => ∃ (i b2_ b4 : Nat), k + i = x.ents.length ∧ f 1 = .slice qa l.length qc ∧ f 2 = .pointer (some ⟨b2_, 0, none⟩) ∧ f 4 = .pointer (some ⟨b4, 0, none⟩) ∧ f 9 = .slice a x.ents.length c ∧ f 10 = .int .i64 x.ents.length ∧ f 11 = .int .i64 i ∧ (∀ y ∈ x.ents.take i, y.path ≠ l) ∧ Ctx w0 w1 [(b4, .cells ([.int .i64 0, .int .i64 0] : List Value).toArray 48), (b2_, .cells ([.int .i64 x.fmt, .int .i64 x.size, .int .i64 x.depth, .slice a x.ents.length c, .slice a2 x.cols.length c2] : List Value).toArray 35)]) (x.ents.length) ?_ ?_
  · skip
    exact ⟨0, _, _, by omega, rfl, rfl, rfl, rfl, rfl, rfl, by simp, cx⟩
  intro gk2 f w hJ
  obtain ⟨i, b2_, b4, hk, hs1, hs2, hs4, hs9, hs10, hs11, hall, cx⟩ := hJ
  refine wp_seq ?_
  refine wp_region_lit ?_
  refine s_val rfl rfl (v_cmp rfl hs11 hs10 rfl) ?_
  refine wpList_nil ?_
  refine wp_seq ?_
  refine c_split rfl (fun hc12 => ?_) (fun hc12 => ?_)
  · skip
    try simp only [Bool.and_eq_true, Bool.or_eq_true, Bool.and_eq_false_iff, Bool.or_eq_false_iff, Bool.not_eq_true', Bool.not_eq_false', decide_eq_true_eq, decide_eq_false_iff_not, beq_iff_eq, beq_eq_false_iff_ne, bne_iff_ne, bne_eq_false_iff_eq, ne_eq, Classical.not_not] at hc12
    obtain ⟨e, he⟩ : ∃ e, x.ents[i]? = some e := ⟨x.ents[i]'(by omega), List.getElem?_eq_getElem _⟩
    obtain ⟨p, hrw, hp⟩ := hr i e he
    obtain ⟨pa, pc, rfl, hpc⟩ := hp.sl
    obtain rfl := ha (by omega)
    have hpl := hs.pl e (List.mem_of_getElem? he)
    refine wp_skip ?_
    refine wp_seq ?_
    refine wp_block ?_
    refine wp_seq ?_
    refine wp_region_lit ?_
    refine s_val rfl rfl (v_ia Tryz.underlying32 sz52 rfl hs9 hs11 (by omega) (by omega)) ?_
    refine s_val rfl rfl (v_load rfl rfl Tryz.underlying52 rfl sz52 (hrw.up cx.ext) rfl) ?_
    refine s_alloc cx z52 rfl rfl rfl ?_; intro b7 w cx hb7 hw7
    refine s_storeAll cx 0 rfl rfl rfl rfl rfl rfl sz52 rfl rfl ?_; intro w cx hwS3
    refine wpList_nil ?_
    refine wp_seq ?_
    refine wp_region_lit ?_
    refine s_val rfl rfl (v_fa fa52_0 rfl rfl) ?_
    refine s_val rfl rfl (v_load1 rfl rfl Tryz.underlying28 rfl (cx.cell 0 rfl rfl)) ?_
    refine s_val rfl rfl (v_move rfl hs1) ?_
    refine s_fnB cx (c45 _ _ _ _ _ (hp.up cx.ext) (hq.up cx.ext) (by omega) (by omega)) Tryz.func45 rfl rfl rfl rfl rfl rfl ?_; intro q18 w cx hw18 hp18
    refine wpList_nil ?_
    refine c_split rfl (fun hc18 => ?_) (fun hc18 => ?_)
    · skip
      try simp only [Bool.and_eq_true, Bool.or_eq_true, Bool.and_eq_false_iff, Bool.or_eq_false_iff, Bool.not_eq_true', Bool.not_eq_false', decide_eq_true_eq, decide_eq_false_iff_not, beq_iff_eq, beq_eq_false_iff_ne, bne_iff_ne, bne_eq_false_iff_eq, ne_eq, Classical.not_not] at hc18
      refine wp_seq ?_
      refine wp_region_lit ?_
      refine s_val rfl rfl (v_fa fa52_1 rfl rfl) ?_
      refine s_val rfl rfl (v_load rfl rfl Tryz.underlying48 rfl sz48 (l := [.int .i64 e.fr, .int .i64 e.to]) ((cx.row 0 rfl).sub 1 rfl) rfl) ?_
      refine s_storeAll cx 1 rfl rfl rfl hs4 rfl rfl sz48 rfl rfl ?_; intro w cx hwS5
      refine s_val rfl rfl (v_assign rfl rfl) ?_
      refine wpList_nil ?_
      refine wp_ret ?_
      refine ret_cell2 Tryz.results16 hs4 rfl (cx.at 1 rfl) Tryz.underlying48 rfl sz48 ?_
      refine ⟨cx.ext, ?_⟩
      show _ = lookV x.ents l
      unfold lookV
      rw [lookP_some he (hp18.1 hc18) hall]
      rfl
    · skip
      try simp only [Bool.and_eq_true, Bool.or_eq_true, Bool.and_eq_false_iff, Bool.or_eq_false_iff, Bool.not_eq_true', Bool.not_eq_false', decide_eq_true_eq, decide_eq_false_iff_not, beq_iff_eq, beq_eq_false_iff_ne, bne_iff_ne, bne_eq_false_iff_eq, ne_eq, Classical.not_not] at hc18
      refine wp_skip ?_
      refine wp_region_lit ?_
      refine s_val rfl rfl (v_add rfl hs11 rfl (by omega) (by omega)) ?_
      refine s_val rfl rfl (v_move rfl rfl) ?_
      refine wpList_nil ?_
      refine ⟨gk2 - 1, _, by omega, rfl, i + 1, b2_, b4, by omega, hs1, hs2, hs4, hs9, hs10, rfl, fun y hy => ?_, cx.drop 1⟩
      rcases mem_take_succ he hy with h | rfl
      · exact hall y h
      · intro h
        rw [hp18.2 h] at hc18
        cases hc18
  · skip
    try simp only [Bool.and_eq_true, Bool.or_eq_true, Bool.and_eq_false_iff, Bool.or_eq_false_iff, Bool.not_eq_true', Bool.not_eq_false', decide_eq_true_eq, decide_eq_false_iff_not, beq_iff_eq, beq_eq_false_iff_ne, bne_iff_ne, bne_eq_false_iff_eq, ne_eq, Classical.not_not] at hc12
    refine wp_exit ?_
    refine wp_seq ?_
    refine wp_region_lit ?_
    refine s_val rfl rfl (v_build bd48 rfl rfl) ?_
    refine s_storeAll cx 0 rfl rfl rfl hs4 rfl rfl sz48 rfl rfl ?_; intro w cx hwS7
    refine s_val rfl rfl (v_assign rfl rfl) ?_
    refine wpList_nil ?_
    refine wp_ret ?_
    refine ret_cell2 Tryz.results16 hs4 rfl (cx.at 0 rfl) Tryz.underlying48 rfl sz48 ?_
    refine ⟨cx.ext, ?_⟩
    show _ = lookV x.ents l
    unfold lookV
    rw [lookP_none fun y hy => hall y (by rw [List.take_of_length_le (by omega)]; exact hy)]
    rfl

set_option maxHeartbeats 4000000 in
set_option maxRecDepth 10000 in
theorem c17 (r : List Value) (x : Idx) (v : Value) (l : List Stp) (w0 : World) (hx : IdxV w0 x r) (hq : Pth w0 v l) (hs : Szd x) (hl : l.length ≤ 1048576) : Fc Tryz.prog 17 [.agg r.toArray, v] w0 (fun u _ => u = lookV x.ents l) := by
  obtain ⟨ve, vc, rfl, hE, hC⟩ := hx
  obtain ⟨a, c, b, o, rfl, ha, hr⟩ := hE.form
  obtain ⟨a2, c2, b2, o2, rfl, _, _⟩ := hC.form
  obtain ⟨qa, qc, rfl, hqc⟩ := hq.sl
  have hel := hs.el
  refine ret_enter Tryz.func17 rfl Tryz.ntmps17 rfl ?_
  have cx := Ctx.start w0
  refine wp_seq ?_
  refine wp_region_lit ?_
  refine s_box cx rfl rfl rfl rfl rfl ?_; intro b2 w cx hb2 hw2
  refine s_alloc cx z48 rfl rfl rfl ?_; intro b4 w cx hb4 hw4
  refine s_val rfl rfl (v_assign rfl rfl) ?_
  refine wpList_nil ?_
  refine wp_seq ?_
  refine wp_seq ?_
  refine wp_region_lit ?_
  refine s_val rfl rfl (v_assign rfl rfl) ?_
  refine wpList_nil ?_
  refine wp_block ?_
  refine w_loop (fun k f w1 => ∃ (i b2_ b4 : Nat), k + i = x.ents.length ∧ f 1 = .slice qa l.length qc ∧ f 2 = .pointer (some ⟨b2_, 0, none⟩) ∧ f 4 = .pointer (some ⟨b4, 0, none⟩) ∧ f 6 = .int .i64 i ∧ (∀ y ∈ x.ents.take i, y.path ≠ l) ∧ Ctx w0 w1 [(b4, .cells ([.int .i64 0, .int .i64 0] : List Value).toArray 48), (b2_, .cells ([.int .i64 x.fmt, .int .i64 x.size, .int .i64 x.depth, .slice a x.ents.length c, .slice a2 x.cols.length c2] : List Value).toArray 35)]) (x.ents.length) ?_ ?_
  · skip
    exact ⟨0, _, _, by omega, rfl, rfl, rfl, rfl, by simp, cx⟩
  intro gk2 f w hJ
  obtain ⟨i, b2_, b4, hk, hs1, hs2, hs4, hs6, hall, cx⟩ := hJ
  refine wp_seq ?_
  refine wp_seq ?_
  refine wp_region_lit ?_
  refine s_val rfl rfl (v_move rfl hs6) ?_
  refine s_val rfl rfl (v_fa fa35_3 rfl hs2) ?_
  refine s_val rfl rfl (v_load1 rfl rfl Tryz.underlying32 rfl (cx.cell 1 rfl rfl)) ?_
  refine s_val rfl rfl (v_lenSlice rfl rfl Tryz.underlying32) ?_
  refine s_val rfl rfl (v_cmp rfl rfl rfl rfl) ?_
  refine wpList_nil ?_
  refine c_split rfl (fun hc11 => ?_) (fun hc11 => ?_)
  · skip
    try simp only [Bool.and_eq_true, Bool.or_eq_true, Bool.and_eq_false_iff, Bool.or_eq_false_iff, Bool.not_eq_true', Bool.not_eq_false', decide_eq_true_eq, decide_eq_false_iff_not, beq_iff_eq, beq_eq_false_iff_ne, bne_iff_ne, bne_eq_false_iff_eq, ne_eq, Classical.not_not] at hc11
    obtain ⟨e, he⟩ : ∃ e, x.ents[i]? = some e := ⟨x.ents[i]'(by omega), List.getElem?_eq_getElem _⟩
    obtain ⟨p, hrw, hp⟩ := hr i e he
    obtain ⟨pa, pc, rfl, hpc⟩ := hp.sl
    obtain rfl := ha (by omega)
    have hpl := hs.pl e (List.mem_of_getElem? he)
    refine wp_skip ?_
    refine wp_seq ?_
    refine wp_block ?_
    refine wp_seq ?_
    refine wp_region_lit ?_
    refine s_val rfl rfl (v_fa fa35_3 rfl hs2) ?_
    refine s_val rfl rfl (v_load1 rfl rfl Tryz.underlying32 rfl (cx.cell 1 rfl rfl)) ?_
    refine s_val rfl rfl (v_move rfl hs6) ?_
    refine s_val rfl rfl (v_ia Tryz.underlying32 sz52 rfl rfl rfl (by omega) (by omega)) ?_
    refine s_val rfl rfl (v_fa fa52_0 rfl rfl) ?_
    refine s_val rfl rfl (v_load1 rfl rfl Tryz.underlying28 rfl ((hrw.up cx.ext).cell 0 rfl)) ?_
    refine s_val rfl rfl (v_move rfl hs1) ?_
    refine s_fnB cx (c20 _ _ _ _ _ (hp.up cx.ext) (hq.up cx.ext) (by omega) (by omega)) Tryz.func20 rfl rfl rfl rfl rfl rfl ?_; intro q21 w cx hw21 hp21
    refine wpList_nil ?_
    refine c_split rfl (fun hc21 => ?_) (fun hc21 => ?_)
    · skip
      try simp only [Bool.and_eq_true, Bool.or_eq_true, Bool.and_eq_false_iff, Bool.or_eq_false_iff, Bool.not_eq_true', Bool.not_eq_false', decide_eq_true_eq, decide_eq_false_iff_not, beq_iff_eq, beq_eq_false_iff_ne, bne_iff_ne, bne_eq_false_iff_eq, ne_eq, Classical.not_not] at hc21
      refine wp_seq ?_
      refine wp_region_lit ?_
      refine s_val rfl rfl (v_fa fa35_3 rfl hs2) ?_
      refine s_val rfl rfl (v_load1 rfl rfl Tryz.underlying32 rfl (cx.cell 1 rfl rfl)) ?_
      refine s_val rfl rfl (v_move rfl hs6) ?_
      refine s_val rfl rfl (v_ia Tryz.underlying32 sz52 rfl rfl rfl (by omega) (by omega)) ?_
      refine s_val rfl rfl (v_fa fa52_1 rfl rfl) ?_
      refine s_val rfl rfl (v_load rfl rfl Tryz.underlying48 rfl sz48 (l := [.int .i64 e.fr, .int .i64 e.to]) ((hrw.up cx.ext).sub 1 rfl) rfl) ?_
      refine s_storeAll cx 0 rfl rfl rfl hs4 rfl rfl sz48 rfl rfl ?_; intro w cx hwS5
      refine s_val rfl rfl (v_assign rfl rfl) ?_
      refine wpList_nil ?_
      refine wp_ret ?_
      refine ret_cell2 Tryz.results17 hs4 rfl (cx.at 0 rfl) Tryz.underlying48 rfl sz48 ?_
      refine ⟨cx.ext, ?_⟩
      show _ = lookV x.ents l
      unfold lookV
      rw [lookP_some he (hp21.1 hc21) hall]
      rfl
    · skip
      try simp only [Bool.and_eq_true, Bool.or_eq_true, Bool.and_eq_false_iff, Bool.or_eq_false_iff, Bool.not_eq_true', Bool.not_eq_false', decide_eq_true_eq, decide_eq_false_iff_not, beq_iff_eq, beq_eq_false_iff_ne, bne_iff_ne, bne_eq_false_iff_eq, ne_eq, Classical.not_not] at hc21
      refine wp_skip ?_
      refine wp_region_lit ?_
      refine s_val rfl rfl (v_move rfl hs6) ?_
      refine s_val rfl rfl (v_add rfl rfl rfl (by omega) (by omega)) ?_
      refine s_val rfl rfl (v_assign rfl rfl) ?_
      refine wpList_nil ?_
      refine ⟨gk2 - 1, _, by omega, rfl, i + 1, b2_, b4, by omega, hs1, hs2, hs4, rfl, fun y hy => ?_, cx⟩
      rcases mem_take_succ he hy with h | rfl
      · exact hall y h
      · intro h
        rw [hp21.2 h] at hc21
        cases hc21
  · skip
    try simp only [Bool.and_eq_true, Bool.or_eq_true, Bool.and_eq_false_iff, Bool.or_eq_false_iff, Bool.not_eq_true', Bool.not_eq_false', decide_eq_true_eq, decide_eq_false_iff_not, beq_iff_eq, beq_eq_false_iff_ne, bne_iff_ne, bne_eq_false_iff_eq, ne_eq, Classical.not_not] at hc11
    refine wp_exit ?_
    refine wp_seq ?_
    refine wp_region_lit ?_
    refine s_val rfl rfl (v_build bd48 rfl rfl) ?_
    refine s_storeAll cx 0 rfl rfl rfl hs4 rfl rfl sz48 rfl rfl ?_; intro w cx hwS6
    refine s_val rfl rfl (v_assign rfl rfl) ?_
    refine wpList_nil ?_
    refine wp_ret ?_
    refine ret_cell2 Tryz.results17 hs4 rfl (cx.at 0 rfl) Tryz.underlying48 rfl sz48 ?_
    refine ⟨cx.ext, ?_⟩
    show _ = lookV x.ents l
    unfold lookV
    rw [lookP_none fun y hy => hall y (by rw [List.take_of_length_le (by omega)]; exact hy)]
    rfl

end Go.Proofs.YthiafbkolhnadaaGreatDoor
