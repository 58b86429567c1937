/-
  Contracts of the sort: swapRange, rotate.
-/
import Derived.Test.YtmkihcdcgkdilaaQu
import Derived.Test.YtmkihcdcgkdilaaVk
namespace Go.Proofs.Ytmkihcdcgkdilaa
open Go Go.Dk Go.RowKit
set_option linter.unusedSimpArgs false
set_option linter.unusedVariables false
attribute [local irreducible] Go.wpList Go.Code.wp Go.bodyPost Go.wpStill Go.wpQuiet
theorem Rw.stx {A U M V B : List (List Value)} (h : ∀ r ∈ A ++ U ++ M ++ V ++ B, Rw r) (i : Nat) : ∀ r ∈ A ++ (V.take i ++ U.drop i) ++ M ++ (U.take i ++ V.drop i) ++ B, Rw r := by
  intro r hr
  refine h r ?_
  simp only [List.mem_append] at hr ⊢
  rcases hr with (((hr | hr | hr) | hr) | hr | hr) | hr
  · simp [hr]
  · simp [List.mem_of_mem_take hr]
  · simp [List.mem_of_mem_drop hr]
  · simp [hr]
  · simp [List.mem_of_mem_take hr]
  · simp [List.mem_of_mem_drop hr]
  · simp [hr]

set_option maxRecDepth 10000 in
theorem c155 (wb : World) (L : List (Nat × Obj)) (R : List Row) (v fv : Value) (n : Nat) (A U M V B : List (List Value)) (a b m : Int) (w0 : World) (cx : Cxr wb w0 L (⟨77, 14, v, n, (A ++ U ++ M ++ V ++ B).flatten⟩ :: R)) (hRs : ∀ r ∈ A ++ U ++ M ++ V ++ B, Rw r) (hn : (A ++ U ++ M ++ V ++ B).length = n) (hn1 : n ≤ 1048576) (hUV : U.length = V.length)
    (ha : a = A.length) (hb : b = (A.length + U.length + M.length : Nat)) (hm : m = U.length) : Ret Try.prog 155 [v, .int .i64 a, .int .i64 b, .int .i64 m, fv] w0 (fun _ w' => Cxr wb w' L (⟨77, 14, v, n, (A ++ V ++ M ++ U ++ B).flatten⟩ :: R)) := by
  refine ret_enter Try.func155 rfl Try.ntmps155 rfl ?_
  skip
  refine wp_seq ?_
  refine wp_region_lit ?_
  refine s_val rfl rfl (v_assign rfl rfl) ?_
  refine wpList_nil ?_
  refine wp_block ?_
  refine w_loop (fun k f w1 => ∃ i : Nat, k + i = U.length ∧ f 0 = v ∧ f 1 = .int .i64 a ∧ f 2 = .int .i64 b ∧ f 3 = .int .i64 m ∧ f 10 = .int .i64 i ∧ Cxr wb w1 L (⟨77, 14, v, n, (A ++ (V.take i ++ U.drop i) ++ M ++ (U.take i ++ V.drop i) ++ B).flatten⟩ :: R)) (U.length) ?_ ?_
  · skip
    exact ⟨0, by omega, rfl, rfl, rfl, rfl, rfl, by simpa using cx⟩
  intro gk1 f w hJ
  obtain ⟨i, hki, hs0, hs1, hs2, hs3, hs10, cx⟩ := hJ
  refine wp_seq ?_
  refine wp_seq ?_
  refine wp_region_lit ?_
  refine s_val rfl rfl (v_move rfl hs10) ?_
  refine s_val rfl rfl (v_move rfl hs3) ?_
  refine s_val rfl rfl (v_cmp rfl rfl rfl rfl) ?_
  refine wpList_nil ?_
  refine c_split rfl (fun hc13 => ?_) (fun hc13 => ?_)
  · skip
    try simp only [Bool.and_eq_true, Bool.or_eq_true, Bool.and_eq_false_iff, Bool.or_eq_false_iff, Bool.not_eq_true', Bool.not_eq_false', decide_eq_true_eq, decide_eq_false_iff_not, beq_iff_eq, beq_eq_false_iff_ne, bne_iff_ne, bne_eq_false_iff_eq, ne_eq, Classical.not_not] at hc13
    obtain ⟨x, hx, hU, hUt, hUd⟩ := split_at (l := U) (i := i) (by omega)
    obtain ⟨y, hy, hV, hVt, hVd⟩ := split_at (l := V) (i := i) (by omega)
    have est : A ++ (V.take i ++ U.drop i) ++ M ++ (U.take i ++ V.drop i) ++ B = (A ++ V.take i) ++ x :: ((U.drop (i + 1) ++ M ++ U.take i) ++ y :: (V.drop (i + 1) ++ B)) := by rw [hUd, hVd]; simp [List.append_assoc]
    have est' : A ++ (V.take (i + 1) ++ U.drop (i + 1)) ++ M ++ (U.take (i + 1) ++ V.drop (i + 1)) ++ B = (A ++ V.take i) ++ y :: ((U.drop (i + 1) ++ M ++ U.take i) ++ x :: (V.drop (i + 1) ++ B)) := by rw [hUt, hVt]; simp [List.append_assoc]
    rw [est] at cx
    have hlenP : (A ++ V.take i).length = A.length + i := by simp; omega
    have hlenM : (U.drop (i + 1) ++ M ++ U.take i).length + (i + 1) = U.length + M.length + i := by simp; omega
    generalize A ++ V.take i = P at *
    generalize U.drop (i + 1) ++ M ++ U.take i = M1 at *
    generalize V.drop (i + 1) ++ B = S at *
    have hRs1 := Rw.stx hRs i
    rw [est] at hRs1
    have hlen : (P ++ x :: (M1 ++ y :: S)).length = n := by rw [← est]; simp at hn ⊢; omega
    have hi : ((a + i : Int)).toNat = P.length := by omega
    have hj : ((b + i : Int)).toNat = P.length + 1 + M1.length := by omega
    have hgx := get_mid1 P M1 S x y hi
    have hgy := get_mid2 P M1 S x y hj
    have hix := (List.getElem?_eq_some_iff.1 hgx).1
    have hjx := (List.getElem?_eq_some_iff.1 hgy).1
    have hrx : Rw x := hRs1 x (by simp)
    have hry : Rw y := hRs1 y (by simp)
    obtain ⟨g, c, rfl⟩ := cx.el hRs1 hlen hgx
    refine wp_skip ?_
    refine wp_seq ?_
    refine wp_block ?_
    refine w_ord cx (Ctx.sub0 cx) mixed [(0, 16), (1, 17), (2, 18), (3, 19), (4, 20), (5, 21), (6, 22), (7, 23), (8, 24), (9, 25), (10, 26), (11, 27), (12, 28), (14, 30), (15, 31), (16, 32), (17, 33), (18, 34)] #[true, true, true, true, true, true, true, true, true, true, true, true, true, false, true, true, true, true, true, false, false, false, false, false] (by kernel_rfl) (by kernel_rfl) (by kernel_rfl) (by kernel_rfl) ?_
    refine pu_one rfl (wnt_none rfl) (fun w cx => v_move rfl hs0) ?_
    refine pu_one rfl (wnt_none rfl) (fun w cx => v_move rfl hs1) ?_
    refine pu_one rfl (wnt_none rfl) (fun w cx => v_move rfl hs10) ?_
    refine pu_one rfl (wnt_none rfl) (fun w cx => v_add rfl rfl rfl (by omega) (by omega)) ?_
    refine pu_one rfl (wnt_none rfl) (fun w cx => v_move rfl hs0) ?_
    refine pu_one rfl (wnt_none rfl) (fun w cx => v_move rfl hs2) ?_
    refine pu_one rfl (wnt_none rfl) (fun w cx => v_move rfl hs10) ?_
    refine pu_one rfl (wnt_none rfl) (fun w cx => v_add rfl rfl rfl (by omega) (by omega)) ?_
    refine pu_one rfl (wnt_none rfl) (fun w cx => v_move rfl hs0) ?_
    refine pu_one rfl (wnt_none rfl) (fun w cx => v_move rfl hs2) ?_
    refine pu_one rfl (wnt_none rfl) (fun w cx => v_move rfl hs10) ?_
    refine pu_one rfl (wnt_none rfl) (fun w cx => v_add rfl rfl rfl (by omega) (by omega)) ?_
    refine pu_one rfl (wnt_none rfl) (fun w cx => v_ia Try.underlying31 sz77 rfl rfl rfl (by omega) (by omega)) ?_
    refine pu_one rfl (wnt_none rfl) (fun w cx => v_move rfl hs0) ?_
    refine pu_one rfl (wnt_none rfl) (fun w cx => v_move rfl hs1) ?_
    refine pu_one rfl (wnt_none rfl) (fun w cx => v_move rfl hs10) ?_
    refine pu_one rfl (wnt_none rfl) (fun w cx => v_add rfl rfl rfl (by omega) (by omega)) ?_
    refine pu_one rfl (wnt_none rfl) (fun w cx => v_ia Try.underlying31 sz77 rfl rfl rfl (by omega) (by omega)) ?_
    refine pu_nil ?_; intro w cx hwD3
    refine x_two (i := 13) (j := 19) (by kernel_rfl) rfl rfl ?_ ?_
    · skip
      refine s_val rfl rfl (v_load rfl rfl Try.underlying77 rfl sz77 (cx.elAt hRs1 hlen hgy) hry.len) ?_
      refine x_next ⟨.inl (Ctx.sub0 cx), ?_⟩
      refine x_one (i := 19) (by kernel_rfl) rfl ?_
      refine s_val rfl rfl (v_load rfl rfl Try.underlying77 rfl sz77 (cx.elAt hRs1 hlen hgx) hrx.len) ?_
      refine x_next ⟨.inl (Ctx.sub0 cx), ?_⟩
      refine x_one (i := 20) (by kernel_rfl) rfl ?_
      refine s_val rfl rfl (v_ia Try.underlying31 sz77 rfl rfl rfl (by omega) (by omega)) ?_
      refine x_next ⟨.inl (Ctx.sub0 cx), ?_⟩
      refine x_one (i := 21) (by kernel_rfl) rfl ?_
      refine s_storeEl cx rfl rfl rfl rfl rfl sz77 hRs1 hlen hix hry ?_; intro w cx
      refine x_next ⟨.inl (Ctx.sub0 cx), ?_⟩
      refine x_one (i := 22) (by kernel_rfl) rfl ?_
      refine s_val rfl rfl (v_ia Try.underlying31 sz77 rfl rfl rfl (by omega) (by omega)) ?_
      refine x_next ⟨.inr (by kernel_rfl), ?_⟩
      refine x_one (i := 23) (by kernel_rfl) rfl ?_
      refine s_storeEl cx rfl rfl rfl rfl rfl sz77 (Rw.set hRs1 _ hry) (by simpa using hlen) (by simpa using hjx) hrx ?_; intro w cx
      rw [sw_mid P M1 S x y hi hj] at cx
      refine x_next ⟨.inr (by kernel_rfl), ?_⟩
      refine x_done (by kernel_rfl) ?_
      refine wp_region_lit ?_
      refine s_val rfl rfl (v_move rfl hs10) ?_
      refine s_val rfl rfl (v_add rfl rfl rfl (by omega) (by omega)) ?_
      refine s_val rfl rfl (v_assign rfl rfl) ?_
      refine wpList_nil ?_
      refine ⟨gk1 - 1, _, by omega, rfl, i + 1, by omega, hs0, hs1, hs2, hs3, rfl, ?_⟩
      rw [est']
      exact cx
    · skip
      refine s_val rfl rfl (v_load rfl rfl Try.underlying77 rfl sz77 (cx.elAt hRs1 hlen hgx) hrx.len) ?_
      refine x_next ⟨.inl (Ctx.sub0 cx), ?_⟩
      refine x_one (i := 13) (by kernel_rfl) rfl ?_
      refine s_val rfl rfl (v_load rfl rfl Try.underlying77 rfl sz77 (cx.elAt hRs1 hlen hgy) hry.len) ?_
      refine x_next ⟨.inl (Ctx.sub0 cx), ?_⟩
      refine x_one (i := 20) (by kernel_rfl) rfl ?_
      refine s_val rfl rfl (v_ia Try.underlying31 sz77 rfl rfl rfl (by omega) (by omega)) ?_
      refine x_next ⟨.inl (Ctx.sub0 cx), ?_⟩
      refine x_one (i := 21) (by kernel_rfl) rfl ?_
      refine s_storeEl cx rfl rfl rfl rfl rfl sz77 hRs1 hlen hix hry ?_; intro w cx
      refine x_next ⟨.inl (Ctx.sub0 cx), ?_⟩
      refine x_one (i := 22) (by kernel_rfl) rfl ?_
      refine s_val rfl rfl (v_ia Try.underlying31 sz77 rfl rfl rfl (by omega) (by omega)) ?_
      refine x_next ⟨.inr (by kernel_rfl), ?_⟩
      refine x_one (i := 23) (by kernel_rfl) rfl ?_
      refine s_storeEl cx rfl rfl rfl rfl rfl sz77 (Rw.set hRs1 _ hry) (by simpa using hlen) (by simpa using hjx) hrx ?_; intro w cx
      rw [sw_mid P M1 S x y hi hj] at cx
      refine x_next ⟨.inr (by kernel_rfl), ?_⟩
      refine x_done (by kernel_rfl) ?_
      refine wp_region_lit ?_
      refine s_val rfl rfl (v_move rfl hs10) ?_
      refine s_val rfl rfl (v_add rfl rfl rfl (by omega) (by omega)) ?_
      refine s_val rfl rfl (v_assign rfl rfl) ?_
      refine wpList_nil ?_
      refine ⟨gk1 - 1, _, by omega, rfl, i + 1, by omega, hs0, hs1, hs2, hs3, rfl, ?_⟩
      rw [est']
      exact cx
  · skip
    try simp only [Bool.and_eq_true, Bool.or_eq_true, Bool.and_eq_false_iff, Bool.or_eq_false_iff, Bool.not_eq_true', Bool.not_eq_false', decide_eq_true_eq, decide_eq_false_iff_not, beq_iff_eq, beq_eq_false_iff_ne, bne_iff_ne, bne_eq_false_iff_eq, ne_eq, Classical.not_not] at hc13
    refine wp_exit ?_
    refine ret_no (.inr rfl) Try.results155 ?_
    obtain rfl : i = U.length := by omega
    rw [show List.take U.length V = V from List.take_of_length_le (by omega), show List.drop U.length U = [] from List.drop_eq_nil_of_le (by omega), show List.take U.length U = U from List.take_of_length_le (by omega), show List.drop U.length V = [] from List.drop_eq_nil_of_le (by omega)] at cx
    simpa using cx

set_option maxRecDepth 10000 in
theorem c153 (wb : World) (L : List (Nat × Obj)) (R : List Row) (v fv : Value) (n : Nat) (A U V B : List (List Value)) (a m b : Int) (w0 : World) (cx : Cxr wb w0 L (⟨77, 14, v, n, (A ++ U ++ V ++ B).flatten⟩ :: R)) (hRs : ∀ r ∈ A ++ U ++ V ++ B, Rw r) (hn : (A ++ U ++ V ++ B).length = n) (hn1 : n ≤ 1048576) (hU : 0 < U.length) (hV : 0 < V.length)
    (ha : a = A.length) (hm : m = (A.length + U.length : Nat)) (hb : b = (A.length + U.length + V.length : Nat)) : Ret Try.prog 153 [v, .int .i64 a, .int .i64 m, .int .i64 b, fv] w0 (fun _ w' => Cxr wb w' L (⟨77, 14, v, n, (A ++ V ++ U ++ B).flatten⟩ :: R)) := by
  refine ret_enter Try.func153 rfl Try.ntmps153 rfl ?_
  have hnle : A.length + U.length + V.length ≤ n := by simp at hn; omega
  refine wp_seq ?_
  refine wp_region_lit ?_
  refine s_val rfl rfl (v_move rfl rfl) ?_
  refine s_val rfl rfl (v_move rfl rfl) ?_
  refine s_val rfl rfl (v_sub rfl rfl rfl (by omega) (by omega)) ?_
  refine s_val rfl rfl (v_assign rfl rfl) ?_
  refine wpList_nil ?_
  refine wp_seq ?_
  refine wp_region_lit ?_
  refine s_val rfl rfl (v_move rfl rfl) ?_
  refine s_val rfl rfl (v_move rfl rfl) ?_
  refine s_val rfl rfl (v_sub rfl rfl rfl (by omega) (by omega)) ?_
  refine s_val rfl rfl (v_assign rfl rfl) ?_
  refine wpList_nil ?_
  refine wp_seq ?_
  refine wp_block ?_
  refine w_loop (fun k f w1 => ∃ (A' U' V' B' : List (List Value)), k = U'.length + V'.length ∧ f 0 = v ∧ f 1 = .int .i64 a ∧ f 2 = .int .i64 m ∧ f 3 = .int .i64 b ∧ f 4 = fv ∧ f 10 = .int .i64 U'.length ∧ f 11 = .int .i64 V'.length ∧ A'.length + U'.length = A.length + U.length ∧ U'.length + V'.length ≤ n ∧ 0 < U'.length ∧ 0 < V'.length ∧ A' ++ V' ++ U' ++ B' = A ++ V ++ U ++ B ∧ (∀ r ∈ A' ++ U' ++ V' ++ B', Rw r) ∧ (A' ++ U' ++ V' ++ B').length = n ∧ Cxr wb w1 L (⟨77, 14, v, n, (A' ++ U' ++ V' ++ B').flatten⟩ :: R)) (U.length + V.length) ?_ ?_
  · skip
    exact ⟨A, U, V, B, rfl, rfl, rfl, rfl, rfl, rfl, by show Value.int .i64 (m - a) = _; congr 1; omega, by show Value.int .i64 (b - m) = _; congr 1; omega, rfl, by omega, hU, hV, rfl, hRs, hn, cx⟩
  intro gk2 f w hJ
  obtain ⟨A', U', V', B', hk, hs0, hs1, hs2, hs3, hs4, hs10, hs11, hAU, hUV', hU', hV', htgt, hRs', hn', cx⟩ := hJ
  refine wp_seq ?_
  refine wp_seq ?_
  refine wp_region_lit ?_
  refine s_val rfl rfl (v_move rfl hs10) ?_
  refine s_val rfl rfl (v_move rfl hs11) ?_
  refine s_val rfl rfl (v_cmp rfl rfl rfl rfl) ?_
  refine wpList_nil ?_
  refine c_split rfl (fun hc20 => ?_) (fun hc20 => ?_)
  · skip
    try simp only [Bool.and_eq_true, Bool.or_eq_true, Bool.and_eq_false_iff, Bool.or_eq_false_iff, Bool.not_eq_true', Bool.not_eq_false', decide_eq_true_eq, decide_eq_false_iff_not, beq_iff_eq, beq_eq_false_iff_ne, bne_iff_ne, bne_eq_false_iff_eq, ne_eq, Classical.not_not] at hc20
    refine wp_skip ?_
    refine wp_block ?_
    refine wp_seq ?_
    refine wp_region_lit ?_
    refine s_val rfl rfl (v_move rfl hs10) ?_
    refine s_val rfl rfl (v_move rfl hs11) ?_
    refine s_val rfl rfl (v_cmp rfl rfl rfl rfl) ?_
    refine wpList_nil ?_
    refine c_split rfl (fun hc23 => ?_) (fun hc23 => ?_)
    · skip
      try simp only [Bool.and_eq_true, Bool.or_eq_true, Bool.and_eq_false_iff, Bool.or_eq_false_iff, Bool.not_eq_true', Bool.not_eq_false', decide_eq_true_eq, decide_eq_false_iff_not, beq_iff_eq, beq_eq_false_iff_ne, bne_iff_ne, bne_eq_false_iff_eq, ne_eq, Classical.not_not] at hc23
      have e : A' ++ U' ++ V' ++ B' = A' ++ U'.take V'.length ++ U'.drop V'.length ++ V' ++ B' := by simp
      rw [e] at cx hRs' hn'
      have l1 : (U'.take V'.length).length = V'.length := by rw [List.length_take]; omega
      have l2 : (U'.drop V'.length).length + V'.length = U'.length := by rw [List.length_drop]; omega
      refine wp_seq ?_
      refine wp_region_lit ?_
      refine s_val rfl rfl (v_move rfl hs0) ?_
      refine s_val rfl rfl (v_move rfl hs2) ?_
      refine s_val rfl rfl (v_move rfl hs10) ?_
      refine s_val rfl rfl (v_sub rfl rfl rfl (by omega) (by omega)) ?_
      refine s_val rfl rfl (v_move rfl hs2) ?_
      refine s_val rfl rfl (v_move rfl hs11) ?_
      refine s_val rfl rfl (v_move rfl hs4) ?_
      refine s_callR rfl rfl (runs_fn Try.func155 rfl rfl rfl rfl) (c155 wb L R v fv n A' (U'.take V'.length) (U'.drop V'.length) V' B' _ _ _ _ cx hRs' hn' hn1 (by omega) (by omega) (by omega) (by omega)) ?_; intro q31 w cx
      refine wpList_nil ?_
      refine wp_region_lit ?_
      refine s_val rfl rfl (v_move rfl hs10) ?_
      refine s_val rfl rfl (v_move rfl hs11) ?_
      refine s_val rfl rfl (v_sub rfl rfl rfl (by omega) (by omega)) ?_
      refine s_val rfl rfl (v_assign rfl rfl) ?_
      refine wpList_nil ?_
      refine ⟨(U'.drop V'.length).length + (U'.take V'.length).length, _, by omega, rfl, A' ++ V', U'.drop V'.length, U'.take V'.length, B', rfl, hs0, hs1, hs2, hs3, hs4, ?_, ?_, ?_, ?_, ?_, ?_, ?_, ?_, ?_, ?_⟩
      · show Value.int .i64 _ = _; congr 1; omega
      · first | exact hs11.trans (by rw [l1]) | rw [l1]; exact hs11
      · simp only [List.length_append]; omega
      · omega
      · omega
      · omega
      · rw [← htgt]; simp only [List.append_assoc, List.take_append_drop]
      · intro r hr; refine hRs' r ?_; simp only [List.mem_append] at hr ⊢; rcases hr with (((hr | hr) | hr) | hr) | hr <;> simp [hr]
      · rw [← hn']; simp only [List.length_append]; omega
      · simpa using cx
    · skip
      try simp only [Bool.and_eq_true, Bool.or_eq_true, Bool.and_eq_false_iff, Bool.or_eq_false_iff, Bool.not_eq_true', Bool.not_eq_false', decide_eq_true_eq, decide_eq_false_iff_not, beq_iff_eq, beq_eq_false_iff_ne, bne_iff_ne, bne_eq_false_iff_eq, ne_eq, Classical.not_not] at hc23
      have e : A' ++ U' ++ V' ++ B' = A' ++ U' ++ V'.take (V'.length - U'.length) ++ V'.drop (V'.length - U'.length) ++ B' := by simp
      rw [e] at cx hRs' hn'
      have l1 : (V'.take (V'.length - U'.length)).length + U'.length = V'.length := by rw [List.length_take]; omega
      have l2 : (V'.drop (V'.length - U'.length)).length = U'.length := by rw [List.length_drop]; omega
      refine wp_seq ?_
      refine wp_region_lit ?_
      refine s_val rfl rfl (v_move rfl hs0) ?_
      refine s_val rfl rfl (v_move rfl hs2) ?_
      refine s_val rfl rfl (v_move rfl hs10) ?_
      refine s_val rfl rfl (v_sub rfl rfl rfl (by omega) (by omega)) ?_
      refine s_val rfl rfl (v_move rfl hs2) ?_
      refine s_val rfl rfl (v_move rfl hs11) ?_
      refine s_val rfl rfl (v_add rfl rfl rfl (by omega) (by omega)) ?_
      refine s_val rfl rfl (v_move rfl hs10) ?_
      refine s_val rfl rfl (v_sub rfl rfl rfl (by omega) (by omega)) ?_
      refine s_val rfl rfl (v_move rfl hs10) ?_
      refine s_val rfl rfl (v_move rfl hs4) ?_
      refine s_callR rfl rfl (runs_fn Try.func155 rfl rfl rfl rfl) (c155 wb L R v fv n A' U' (V'.take (V'.length - U'.length)) (V'.drop (V'.length - U'.length)) B' _ _ _ _ cx hRs' hn' hn1 (by omega) (by omega) (by omega) (by omega)) ?_; intro q46 w cx
      refine wpList_nil ?_
      refine wp_region_lit ?_
      refine s_val rfl rfl (v_move rfl hs11) ?_
      refine s_val rfl rfl (v_move rfl hs10) ?_
      refine s_val rfl rfl (v_sub rfl rfl rfl (by omega) (by omega)) ?_
      refine s_val rfl rfl (v_assign rfl rfl) ?_
      refine wpList_nil ?_
      refine ⟨(V'.drop (V'.length - U'.length)).length + (V'.take (V'.length - U'.length)).length, _, by omega, rfl, A', V'.drop (V'.length - U'.length), V'.take (V'.length - U'.length), U' ++ B', rfl, hs0, hs1, hs2, hs3, hs4, ?_, ?_, ?_, ?_, ?_, ?_, ?_, ?_, ?_, ?_⟩
      · first | exact hs10.trans (by rw [l2]) | rw [l2]; exact hs10
      · show Value.int .i64 _ = _; congr 1; omega
      · omega
      · omega
      · omega
      · omega
      · rw [← htgt]; simp only [List.append_assoc, List.take_append_drop]
      · intro r hr; refine hRs' r ?_; simp only [List.mem_append] at hr ⊢; rcases hr with ((hr | hr) | hr) | hr | hr <;> simp [hr]
      · rw [← hn']; simp only [List.length_append]; omega
      · simpa using cx
  · skip
    try simp only [Bool.and_eq_true, Bool.or_eq_true, Bool.and_eq_false_iff, Bool.or_eq_false_iff, Bool.not_eq_true', Bool.not_eq_false', decide_eq_true_eq, decide_eq_false_iff_not, beq_iff_eq, beq_eq_false_iff_ne, bne_iff_ne, bne_eq_false_iff_eq, ne_eq, Classical.not_not] at hc20
    have hij : U'.length = V'.length := by omega
    have e : A' ++ U' ++ V' ++ B' = A' ++ U' ++ [] ++ V' ++ B' := by simp
    rw [e] at cx hRs' hn' 
    refine wp_exit ?_
    refine wp_region_lit ?_
    refine s_val rfl rfl (v_move rfl hs0) ?_
    refine s_val rfl rfl (v_move rfl hs2) ?_
    refine s_val rfl rfl (v_move rfl hs10) ?_
    refine s_val rfl rfl (v_sub rfl rfl rfl (by omega) (by omega)) ?_
    refine s_val rfl rfl (v_move rfl hs2) ?_
    refine s_val rfl rfl (v_move rfl hs10) ?_
    refine s_val rfl rfl (v_move rfl hs4) ?_
    refine s_callR rfl rfl (runs_fn Try.func155 rfl rfl rfl rfl) (c155 wb L R v fv n A' U' [] V' B' _ _ _ _ cx hRs' hn' hn1 (by omega) (by omega) (by simp; omega) (by omega)) ?_; intro q57 w cx
    refine wpList_nil ?_
    refine ret_no (.inr rfl) Try.results153 ?_
    rw [List.append_nil, htgt] at cx
    exact cx
end Go.Proofs.Ytmkihcdcgkdilaa
