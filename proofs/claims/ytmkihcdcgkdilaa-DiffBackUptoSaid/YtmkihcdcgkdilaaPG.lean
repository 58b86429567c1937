/-
  What the law DiffBack rests on: several texts in one.
-/
import Derived.Test.YtmkihcdcgkdilaaPF
section
namespace Go.Proofs.Ytmkihcdcgkdilaa
open Go Go.Dk Go.RowKit
set_option linter.unusedSimpArgs false
set_option linter.unusedVariables false
attribute [local irreducible] Go.wpList Go.Code.wp Go.bodyPost Go.wpStill Go.wpQuiet
theorem Rw.stx {A U M V B : List (List Value)} (h : ∀ r ∈ A ++ U ++ M ++ V ++ B, Rw r) (i : Nat) : ∀ r ∈ A ++ (V.take i ++ U.drop i) ++ M ++ (U.take i ++ V.drop i) ++ B, Rw r := by
  intro r hr
  refine h r ?_
  simp only [List.mem_append] at hr ⊢
  rcases hr with (((hr | hr | hr) | hr) | hr | hr) | hr
  · simp [hr]
  · simp [List.mem_of_mem_take hr]
  · simp [List.mem_of_mem_drop hr]
  · simp [hr]
  · simp [List.mem_of_mem_take hr]
  · simp [List.mem_of_mem_drop hr]
  · simp [hr]
set_option maxRecDepth 10000 in
theorem c155 (wb : World) (L : List (Nat × Obj)) (R : List Row) (v fv : Value) (n : Nat) (A U M V B : List (List Value)) (a b m : Int) (w0 : World) (cx : Cxr wb w0 L (⟨77, 14, v, n, (A ++ U ++ M ++ V ++ B).flatten⟩ :: R)) (hRs : ∀ r ∈ A ++ U ++ M ++ V ++ B, Rw r) (hn : (A ++ U ++ M ++ V ++ B).length = n) (hn1 : n ≤ 1048576) (hUV : U.length = V.length)
    (ha : a = A.length) (hb : b = (A.length + U.length + M.length : Nat)) (hm : m = U.length) : Ret Try.prog 155 [v, .int .i64 a, .int .i64 b, .int .i64 m, fv] w0 (fun _ w' => Cxr wb w' L (⟨77, 14, v, n, (A ++ V ++ M ++ U ++ B).flatten⟩ :: R)) := by
  refine ret_enter Try.func155 rfl Try.ntmps155 rfl ?_
  refine wp_seq ?_
  refine wp_region_lit ?_
  refine s_val rfl rfl (v_assign rfl rfl) ?_
  refine wpList_nil ?_
  refine wp_block ?_
  refine w_loop (fun k f w1 => ∃ i : Nat, k + i = U.length ∧ f 0 = v ∧ f 1 = .int .i64 a ∧ f 2 = .int .i64 b ∧ f 3 = .int .i64 m ∧ f 10 = .int .i64 i ∧ Cxr wb w1 L (⟨77, 14, v, n, (A ++ (V.take i ++ U.drop i) ++ M ++ (U.take i ++ V.drop i) ++ B).flatten⟩ :: R)) (U.length) ?_ ?_
  · skip
    exact ⟨0, by omega, rfl, rfl, rfl, rfl, rfl, by simpa using cx⟩
  intro gk1 f w hJ
  obtain ⟨i, hki, hs0, hs1, hs2, hs3, hs10, cx⟩ := hJ
  refine wp_seq ?_
  refine wp_seq ?_
  refine wp_region_lit ?_
  refine s_val rfl rfl (v_move rfl hs10) ?_
  refine s_val rfl rfl (v_move rfl hs3) ?_
  refine s_val rfl rfl (v_cmp rfl rfl rfl rfl) ?_
  refine wpList_nil ?_
  refine c_split rfl (fun hc13 => ?_) (fun hc13 => ?_)
  · skip
    try simp only [bsl] at hc13
    obtain ⟨x, hx, hU, hUt, hUd⟩ := split_at (l := U) (i := i) (by omega)
    obtain ⟨y, hy, hV, hVt, hVd⟩ := split_at (l := V) (i := i) (by omega)
    have est : A ++ (V.take i ++ U.drop i) ++ M ++ (U.take i ++ V.drop i) ++ B = (A ++ V.take i) ++ x :: ((U.drop (i + 1) ++ M ++ U.take i) ++ y :: (V.drop (i + 1) ++ B)) := by rw [hUd, hVd]; simp [List.append_assoc]
    have est' : A ++ (V.take (i + 1) ++ U.drop (i + 1)) ++ M ++ (U.take (i + 1) ++ V.drop (i + 1)) ++ B = (A ++ V.take i) ++ y :: ((U.drop (i + 1) ++ M ++ U.take i) ++ x :: (V.drop (i + 1) ++ B)) := by rw [hUt, hVt]; simp [List.append_assoc]
    rw [est] at cx
    have hlenP : (A ++ V.take i).length = A.length + i := by simp; omega
    have hlenM : (U.drop (i + 1) ++ M ++ U.take i).length + (i + 1) = U.length + M.length + i := by simp; omega
    generalize A ++ V.take i = P at *
    generalize U.drop (i + 1) ++ M ++ U.take i = M1 at *
    generalize V.drop (i + 1) ++ B = S at *
    have hRs1 := Rw.stx hRs i
    rw [est] at hRs1
    have hlen : (P ++ x :: (M1 ++ y :: S)).length = n := by rw [← est]; simp at hn ⊢; omega
    have hi : ((a + i : Int)).toNat = P.length := by omega
    have hj : ((b + i : Int)).toNat = P.length + 1 + M1.length := by omega
    have hgx := get_mid1 P M1 S x y hi
    have hgy := get_mid2 P M1 S x y hj
    have hix := (List.getElem?_eq_some_iff.1 hgx).1
    have hjx := (List.getElem?_eq_some_iff.1 hgy).1
    have hrx : Rw x := hRs1 x (by simp)
    have hry : Rw y := hRs1 y (by simp)
    obtain ⟨g, c, rfl⟩ := cx.el hRs1 hlen hgx
    refine wp_skip ?_
    refine wp_seq ?_
    refine wp_block ?_
    refine w_ord cx (Ctx.sub0 cx) mixed [(0, 16), (1, 17), (2, 18), (3, 19), (4, 20), (5, 21), (6, 22), (7, 23), (8, 24), (9, 25), (10, 26), (11, 27), (12, 28), (14, 30), (15, 31), (16, 32), (17, 33), (18, 34)] #[true, true, true, true, true, true, true, true, true, true, true, true, true, false, true, true, true, true, true, false, false, false, false, false] (by kernel_rfl) (by kernel_rfl) (by kernel_rfl) (by kernel_rfl) ?_
    refine pu_one rfl (wnt_none rfl) (fun w cx => v_move rfl hs0) ?_
    refine pu_one rfl (wnt_none rfl) (fun w cx => v_move rfl hs1) ?_
    refine pu_one rfl (wnt_none rfl) (fun w cx => v_move rfl hs10) ?_
    refine pu_one rfl (wnt_none rfl) (fun w cx => v_add rfl rfl rfl (by omega) (by omega)) ?_
    refine pu_one rfl (wnt_none rfl) (fun w cx => v_move rfl hs0) ?_
    refine pu_one rfl (wnt_none rfl) (fun w cx => v_move rfl hs2) ?_
    refine pu_one rfl (wnt_none rfl) (fun w cx => v_move rfl hs10) ?_
    refine pu_one rfl (wnt_none rfl) (fun w cx => v_add rfl rfl rfl (by omega) (by omega)) ?_
    refine pu_one rfl (wnt_none rfl) (fun w cx => v_move rfl hs0) ?_
    refine pu_one rfl (wnt_none rfl) (fun w cx => v_move rfl hs2) ?_
    refine pu_one rfl (wnt_none rfl) (fun w cx => v_move rfl hs10) ?_
    refine pu_one rfl (wnt_none rfl) (fun w cx => v_add rfl rfl rfl (by omega) (by omega)) ?_
    refine pu_one rfl (wnt_none rfl) (fun w cx => v_ia Try.underlying31 sz77 rfl rfl rfl (by omega) (by omega)) ?_
    refine pu_one rfl (wnt_none rfl) (fun w cx => v_move rfl hs0) ?_
    refine pu_one rfl (wnt_none rfl) (fun w cx => v_move rfl hs1) ?_
    refine pu_one rfl (wnt_none rfl) (fun w cx => v_move rfl hs10) ?_
    refine pu_one rfl (wnt_none rfl) (fun w cx => v_add rfl rfl rfl (by omega) (by omega)) ?_
    refine pu_one rfl (wnt_none rfl) (fun w cx => v_ia Try.underlying31 sz77 rfl rfl rfl (by omega) (by omega)) ?_
    refine pu_nil ?_; intro w cx hwD3
    refine x_two (i := 13) (j := 19) (by kernel_rfl) rfl rfl ?_ ?_
    · skip
      refine s_val rfl rfl (v_load rfl rfl Try.underlying77 rfl sz77 (cx.elAt hRs1 hlen hgy) hry.len) ?_
      refine x_next ⟨.inl (Ctx.sub0 cx), ?_⟩
      refine x_one (i := 19) (by kernel_rfl) rfl ?_
      refine s_val rfl rfl (v_load rfl rfl Try.underlying77 rfl sz77 (cx.elAt hRs1 hlen hgx) hrx.len) ?_
      refine x_next ⟨.inl (Ctx.sub0 cx), ?_⟩
      refine x_one (i := 20) (by kernel_rfl) rfl ?_
      refine s_val rfl rfl (v_ia Try.underlying31 sz77 rfl rfl rfl (by omega) (by omega)) ?_
      refine x_next ⟨.inl (Ctx.sub0 cx), ?_⟩
      refine x_one (i := 21) (by kernel_rfl) rfl ?_
      refine s_storeEl cx rfl rfl rfl rfl rfl sz77 hRs1 hlen hix hry ?_; intro w cx
      refine x_next ⟨.inl (Ctx.sub0 cx), ?_⟩
      refine x_one (i := 22) (by kernel_rfl) rfl ?_
      refine s_val rfl rfl (v_ia Try.underlying31 sz77 rfl rfl rfl (by omega) (by omega)) ?_
      refine x_next ⟨.inr (by kernel_rfl), ?_⟩
      refine x_one (i := 23) (by kernel_rfl) rfl ?_
      refine s_storeEl cx rfl rfl rfl rfl rfl sz77 (Rw.set hRs1 _ hry) (by simpa using hlen) (by simpa using hjx) hrx ?_; intro w cx
      rw [sw_mid P M1 S x y hi hj] at cx
      refine x_next ⟨.inr (by kernel_rfl), ?_⟩
      refine x_done (by kernel_rfl) ?_
      refine wp_region_lit ?_
      refine s_val rfl rfl (v_move rfl hs10) ?_
      refine s_val rfl rfl (v_add rfl rfl rfl (by omega) (by omega)) ?_
      refine s_val rfl rfl (v_assign rfl rfl) ?_
      refine wpList_nil ?_
      refine ⟨gk1 - 1, _, by omega, rfl, i + 1, by omega, hs0, hs1, hs2, hs3, rfl, ?_⟩
      rw [est']
      exact cx
    refine s_val rfl rfl (v_load rfl rfl Try.underlying77 rfl sz77 (cx.elAt hRs1 hlen hgx) hrx.len) ?_
    refine x_next ⟨.inl (Ctx.sub0 cx), ?_⟩
    refine x_one (i := 13) (by kernel_rfl) rfl ?_
    refine s_val rfl rfl (v_load rfl rfl Try.underlying77 rfl sz77 (cx.elAt hRs1 hlen hgy) hry.len) ?_
    refine x_next ⟨.inl (Ctx.sub0 cx), ?_⟩
    refine x_one (i := 20) (by kernel_rfl) rfl ?_
    refine s_val rfl rfl (v_ia Try.underlying31 sz77 rfl rfl rfl (by omega) (by omega)) ?_
    refine x_next ⟨.inl (Ctx.sub0 cx), ?_⟩
    refine x_one (i := 21) (by kernel_rfl) rfl ?_
    refine s_storeEl cx rfl rfl rfl rfl rfl sz77 hRs1 hlen hix hry ?_; intro w cx
    refine x_next ⟨.inl (Ctx.sub0 cx), ?_⟩
    refine x_one (i := 22) (by kernel_rfl) rfl ?_
    refine s_val rfl rfl (v_ia Try.underlying31 sz77 rfl rfl rfl (by omega) (by omega)) ?_
    refine x_next ⟨.inr (by kernel_rfl), ?_⟩
    refine x_one (i := 23) (by kernel_rfl) rfl ?_
    refine s_storeEl cx rfl rfl rfl rfl rfl sz77 (Rw.set hRs1 _ hry) (by simpa using hlen) (by simpa using hjx) hrx ?_; intro w cx
    rw [sw_mid P M1 S x y hi hj] at cx
    refine x_next ⟨.inr (by kernel_rfl), ?_⟩
    refine x_done (by kernel_rfl) ?_
    refine wp_region_lit ?_
    refine s_val rfl rfl (v_move rfl hs10) ?_
    refine s_val rfl rfl (v_add rfl rfl rfl (by omega) (by omega)) ?_
    refine s_val rfl rfl (v_assign rfl rfl) ?_
    refine wpList_nil ?_
    refine ⟨gk1 - 1, _, by omega, rfl, i + 1, by omega, hs0, hs1, hs2, hs3, rfl, ?_⟩
    rw [est']
    exact cx
  try simp only [bsl] at hc13
  refine wp_exit ?_
  refine ret_no (.inr rfl) Try.results155 ?_
  obtain rfl : i = U.length := by omega
  rw [show List.take U.length V = V from List.take_of_length_le (by omega), show List.drop U.length U = [] from List.drop_eq_nil_of_le (by omega), show List.take U.length U = U from List.take_of_length_le (by omega), show List.drop U.length V = [] from List.drop_eq_nil_of_le (by omega)] at cx
  simpa using cx
set_option maxRecDepth 10000 in
theorem c153 (wb : World) (L : List (Nat × Obj)) (R : List Row) (v fv : Value) (n : Nat) (A U V B : List (List Value)) (a m b : Int) (w0 : World) (cx : Cxr wb w0 L (⟨77, 14, v, n, (A ++ U ++ V ++ B).flatten⟩ :: R)) (hRs : ∀ r ∈ A ++ U ++ V ++ B, Rw r) (hn : (A ++ U ++ V ++ B).length = n) (hn1 : n ≤ 1048576) (hU : 0 < U.length) (hV : 0 < V.length)
    (ha : a = A.length) (hm : m = (A.length + U.length : Nat)) (hb : b = (A.length + U.length + V.length : Nat)) : Ret Try.prog 153 [v, .int .i64 a, .int .i64 m, .int .i64 b, fv] w0 (fun _ w' => Cxr wb w' L (⟨77, 14, v, n, (A ++ V ++ U ++ B).flatten⟩ :: R)) := by
  refine ret_enter Try.func153 rfl Try.ntmps153 rfl ?_
  have hnle : A.length + U.length + V.length ≤ n := by simp at hn; omega
  refine wp_seq ?_
  refine wp_region_lit ?_
  refine s_val rfl rfl (v_move rfl rfl) ?_
  refine s_val rfl rfl (v_move rfl rfl) ?_
  refine s_val rfl rfl (v_sub rfl rfl rfl (by omega) (by omega)) ?_
  refine s_val rfl rfl (v_assign rfl rfl) ?_
  refine wpList_nil ?_
  refine wp_seq ?_
  refine wp_region_lit ?_
  refine s_val rfl rfl (v_move rfl rfl) ?_
  refine s_val rfl rfl (v_move rfl rfl) ?_
  refine s_val rfl rfl (v_sub rfl rfl rfl (by omega) (by omega)) ?_
  refine s_val rfl rfl (v_assign rfl rfl) ?_
  refine wpList_nil ?_
  refine wp_seq ?_
  refine wp_block ?_
  refine w_loop (fun k f w1 => ∃ (A' U' V' B' : List (List Value)), k = U'.length + V'.length ∧ f 0 = v ∧ f 1 = .int .i64 a ∧ f 2 = .int .i64 m ∧ f 3 = .int .i64 b ∧ f 4 = fv ∧ f 10 = .int .i64 U'.length ∧ f 11 = .int .i64 V'.length ∧ A'.length + U'.length = A.length + U.length ∧ U'.length + V'.length ≤ n ∧ 0 < U'.length ∧ 0 < V'.length ∧ A' ++ V' ++ U' ++ B' = A ++ V ++ U ++ B ∧ (∀ r ∈ A' ++ U' ++ V' ++ B', Rw r) ∧ (A' ++ U' ++ V' ++ B').length = n ∧ Cxr wb w1 L (⟨77, 14, v, n, (A' ++ U' ++ V' ++ B').flatten⟩ :: R)) (U.length + V.length) ?_ ?_
  · skip
    exact ⟨A, U, V, B, rfl, rfl, rfl, rfl, rfl, rfl, by show Value.int .i64 (m - a) = _; congr 1; omega, by show Value.int .i64 (b - m) = _; congr 1; omega, rfl, by omega, hU, hV, rfl, hRs, hn, cx⟩
  intro gk2 f w hJ
  obtain ⟨A', U', V', B', hk, hs0, hs1, hs2, hs3, hs4, hs10, hs11, hAU, hUV', hU', hV', htgt, hRs', hn', cx⟩ := hJ
  refine wp_seq ?_
  refine wp_seq ?_
  refine wp_region_lit ?_
  refine s_val rfl rfl (v_move rfl hs10) ?_
  refine s_val rfl rfl (v_move rfl hs11) ?_
  refine s_val rfl rfl (v_cmp rfl rfl rfl rfl) ?_
  refine wpList_nil ?_
  refine c_split rfl (fun hc20 => ?_) (fun hc20 => ?_)
  · skip
    try simp only [bsl] at hc20
    refine wp_skip ?_
    refine wp_block ?_
    refine wp_seq ?_
    refine wp_region_lit ?_
    refine s_val rfl rfl (v_move rfl hs10) ?_
    refine s_val rfl rfl (v_move rfl hs11) ?_
    refine s_val rfl rfl (v_cmp rfl rfl rfl rfl) ?_
    refine wpList_nil ?_
    refine c_split rfl (fun hc23 => ?_) (fun hc23 => ?_)
    · skip
      try simp only [bsl] at hc23
      have e : A' ++ U' ++ V' ++ B' = A' ++ U'.take V'.length ++ U'.drop V'.length ++ V' ++ B' := by simp
      rw [e] at cx hRs' hn'
      have l1 : (U'.take V'.length).length = V'.length := by rw [List.length_take]; omega
      have l2 : (U'.drop V'.length).length + V'.length = U'.length := by rw [List.length_drop]; omega
      refine wp_seq ?_
      refine wp_region_lit ?_
      refine s_val rfl rfl (v_move rfl hs0) ?_
      refine s_val rfl rfl (v_move rfl hs2) ?_
      refine s_val rfl rfl (v_move rfl hs10) ?_
      refine s_val rfl rfl (v_sub rfl rfl rfl (by omega) (by omega)) ?_
      refine s_val rfl rfl (v_move rfl hs2) ?_
      refine s_val rfl rfl (v_move rfl hs11) ?_
      refine s_val rfl rfl (v_move rfl hs4) ?_
      refine s_callR rfl rfl (runs_fn Try.func155 rfl rfl rfl rfl) (c155 wb L R v fv n A' (U'.take V'.length) (U'.drop V'.length) V' B' _ _ _ _ cx hRs' hn' hn1 (by omega) (by omega) (by omega) (by omega)) ?_; intro q31 w cx
      refine wpList_nil ?_
      refine wp_region_lit ?_
      refine s_val rfl rfl (v_move rfl hs10) ?_
      refine s_val rfl rfl (v_move rfl hs11) ?_
      refine s_val rfl rfl (v_sub rfl rfl rfl (by omega) (by omega)) ?_
      refine s_val rfl rfl (v_assign rfl rfl) ?_
      refine wpList_nil ?_
      refine ⟨(U'.drop V'.length).length + (U'.take V'.length).length, _, by omega, rfl, A' ++ V', U'.drop V'.length, U'.take V'.length, B', rfl, hs0, hs1, hs2, hs3, hs4, ?_, ?_, ?_, ?_, ?_, ?_, ?_, ?_, ?_, ?_⟩
      · show Value.int .i64 _ = _; congr 1; omega
      · first | exact hs11.trans (by rw [l1]) | rw [l1]; exact hs11
      · simp only [List.length_append]; omega
      · omega
      · omega
      · omega
      · rw [← htgt]; simp only [List.append_assoc, List.take_append_drop]
      · intro r hr; refine hRs' r ?_; simp only [List.mem_append] at hr ⊢; rcases hr with (((hr | hr) | hr) | hr) | hr <;> simp [hr]
      · rw [← hn']; simp only [List.length_append]; omega
      · simpa using cx
    try simp only [bsl] at hc23
    have e : A' ++ U' ++ V' ++ B' = A' ++ U' ++ V'.take (V'.length - U'.length) ++ V'.drop (V'.length - U'.length) ++ B' := by simp
    rw [e] at cx hRs' hn'
    have l1 : (V'.take (V'.length - U'.length)).length + U'.length = V'.length := by rw [List.length_take]; omega
    have l2 : (V'.drop (V'.length - U'.length)).length = U'.length := by rw [List.length_drop]; omega
    refine wp_seq ?_
    refine wp_region_lit ?_
    refine s_val rfl rfl (v_move rfl hs0) ?_
    refine s_val rfl rfl (v_move rfl hs2) ?_
    refine s_val rfl rfl (v_move rfl hs10) ?_
    refine s_val rfl rfl (v_sub rfl rfl rfl (by omega) (by omega)) ?_
    refine s_val rfl rfl (v_move rfl hs2) ?_
    refine s_val rfl rfl (v_move rfl hs11) ?_
    refine s_val rfl rfl (v_add rfl rfl rfl (by omega) (by omega)) ?_
    refine s_val rfl rfl (v_move rfl hs10) ?_
    refine s_val rfl rfl (v_sub rfl rfl rfl (by omega) (by omega)) ?_
    refine s_val rfl rfl (v_move rfl hs10) ?_
    refine s_val rfl rfl (v_move rfl hs4) ?_
    refine s_callR rfl rfl (runs_fn Try.func155 rfl rfl rfl rfl) (c155 wb L R v fv n A' U' (V'.take (V'.length - U'.length)) (V'.drop (V'.length - U'.length)) B' _ _ _ _ cx hRs' hn' hn1 (by omega) (by omega) (by omega) (by omega)) ?_; intro q46 w cx
    refine wpList_nil ?_
    refine wp_region_lit ?_
    refine s_val rfl rfl (v_move rfl hs11) ?_
    refine s_val rfl rfl (v_move rfl hs10) ?_
    refine s_val rfl rfl (v_sub rfl rfl rfl (by omega) (by omega)) ?_
    refine s_val rfl rfl (v_assign rfl rfl) ?_
    refine wpList_nil ?_
    refine ⟨(V'.drop (V'.length - U'.length)).length + (V'.take (V'.length - U'.length)).length, _, by omega, rfl, A', V'.drop (V'.length - U'.length), V'.take (V'.length - U'.length), U' ++ B', rfl, hs0, hs1, hs2, hs3, hs4, ?_, ?_, ?_, ?_, ?_, ?_, ?_, ?_, ?_, ?_⟩
    · first | exact hs10.trans (by rw [l2]) | rw [l2]; exact hs10
    · show Value.int .i64 _ = _; congr 1; omega
    · omega
    · omega
    · omega
    · omega
    · rw [← htgt]; simp only [List.append_assoc, List.take_append_drop]
    · intro r hr; refine hRs' r ?_; simp only [List.mem_append] at hr ⊢; rcases hr with ((hr | hr) | hr) | hr | hr <;> simp [hr]
    · rw [← hn']; simp only [List.length_append]; omega
    · simpa using cx
  try simp only [bsl] at hc20
  have hij : U'.length = V'.length := by omega
  have e : A' ++ U' ++ V' ++ B' = A' ++ U' ++ [] ++ V' ++ B' := by simp
  rw [e] at cx hRs' hn' 
  refine wp_exit ?_
  refine wp_region_lit ?_
  refine s_val rfl rfl (v_move rfl hs0) ?_
  refine s_val rfl rfl (v_move rfl hs2) ?_
  refine s_val rfl rfl (v_move rfl hs10) ?_
  refine s_val rfl rfl (v_sub rfl rfl rfl (by omega) (by omega)) ?_
  refine s_val rfl rfl (v_move rfl hs2) ?_
  refine s_val rfl rfl (v_move rfl hs10) ?_
  refine s_val rfl rfl (v_move rfl hs4) ?_
  refine s_callR rfl rfl (runs_fn Try.func155 rfl rfl rfl rfl) (c155 wb L R v fv n A' U' [] V' B' _ _ _ _ cx hRs' hn' hn1 (by omega) (by omega) (by simp; omega) (by omega)) ?_; intro q57 w cx
  refine wpList_nil ?_
  refine ret_no (.inr rfl) Try.results153 ?_
  rw [List.append_nil, htgt] at cx
  exact cx
end Go.Proofs.Ytmkihcdcgkdilaa
end
section
namespace Go.Proofs.Ytmkihcdcgkdilaa
open Go Go.Dk Go.RowKit
set_option linter.unusedSimpArgs false
set_option linter.unusedVariables false
attribute [local irreducible] Go.wpList Go.Code.wp Go.bodyPost Go.wpStill Go.wpQuiet
theorem ex151n : Extern.findNext Try.f151 = none := by kernel_rfl
theorem ex151 : Extern.find Try.f151 = some Extern.BytealgCompare.compare := by kernel_rfl
theorem run151 (a b : ByteArray) (w : World) : (callFunc 151 #[.string a, .string b]).run Try.prog w = .ok (.value (.int .i64 (Extern.BytealgCompare.cmp a b))) w := by
  have hf : Try.prog.funcs[151]? = some Try.f151 := Try.func151
  have hn : (Try.f151.name == "runtime.NumGoroutine") = false := by kernel_rfl
  have hb : Try.f151.body.isNone = true := by kernel_rfl
  have e : Extern.BytealgCompare.compare #[.string a, .string b] = (do pure (goInt (Extern.BytealgCompare.cmp (← Extern.Bytes.bytesOf (.string a)) (← Extern.Bytes.bytesOf (.string b))))) := rfl
  simp [callFunc, hf, hn, hb, ex151n, ex151, e, Extern.Bytes.bytesOf, goInt]
  rw [if_neg (by simpa using hn), if_pos (by simpa using hb)]
theorem v_cmp151 {o : Oper} {w : World} {n : Nat} {f : Nat → Value} {x y : Operand} {ats : Array TypeId} {a b : ByteArray} (ho : o.op = .call { callee := .value (.func 151), args := #[x, y], argTypes := ats }) (hx : ev n f x = .string a) (hy : ev n f y = .string b) : (execOp (ev n f) o).run Try.prog w = .ok (.value (.int .i64 (cmpL a.data.toList b.data.toList))) w := by
  have h := run151 a b w
  rw [cmp_eq] at h
  unfold execOp; rw [ho]
  have he : ev n f (.func 151) = .func (.func 151) #[] #[] := rfl
  simp [resolve, he, Deferred.ofValue, invoke, hx, hy, h]
set_option maxRecDepth 10000 in
theorem c146 (a b : ByteArray) (w0 : World) : Fc Try.prog 146 [.string a, .string b] w0 (fun u _ => u = .int .i64 (cmpL a.data.toList b.data.toList)) := by
  refine ret_enter Try.func146 rfl Try.ntmps146 rfl ?_
  have cx := Ctx.start w0
  refine wp_seq ?_
  refine wp_region_lit ?_
  refine s_val rfl rfl (v_assign rfl rfl) ?_
  refine wpList_nil ?_
  refine wp_seq ?_
  refine wp_region_lit ?_
  refine s_val rfl rfl (v_move rfl rfl) ?_
  refine s_val rfl rfl (v_move rfl rfl) ?_
  refine s_val rfl rfl (v_cmp151 rfl rfl rfl) ?_
  refine s_val rfl rfl (v_assign rfl rfl) ?_
  refine wpList_nil ?_
  refine wp_ret ?_
  refine ret_tmp Try.results146 rfl ?_
  exact ⟨cx.ext, rfl⟩
set_option maxRecDepth 10000 in
theorem c140 (a b : ByteArray) (w0 : World) : Fc Try.prog 140 [.string a, .string b] w0 (fun u _ => u = .int .i64 (cmpL a.data.toList b.data.toList)) := by
  refine ret_enter Try.func140 rfl Try.ntmps140 rfl ?_
  have cx := Ctx.start w0
  refine wp_seq ?_
  refine wp_region_lit ?_
  refine s_val rfl rfl (v_assign rfl rfl) ?_
  refine wpList_nil ?_
  refine wp_seq ?_
  refine wp_region_lit ?_
  refine s_val rfl rfl (v_move rfl rfl) ?_
  refine s_val rfl rfl (v_move rfl rfl) ?_
  refine s_fn cx (c146 _ _ _) Try.func146 rfl rfl rfl rfl rfl rfl ?_; intro q7 w cx hw7 hp7
  subst hp7
  refine s_val rfl rfl (v_assign rfl rfl) ?_
  refine wpList_nil ?_
  refine wp_ret ?_
  refine ret_tmp Try.results140 rfl ?_
  exact ⟨cx.ext, rfl⟩
set_option maxRecDepth 10000 in
theorem c139 (r s : List Value) (w0 : World) (hr : Rw r) (hs : Rw s) : Fc Try.prog 139 [.agg r.toArray, .agg s.toArray] w0 (fun u _ => u = .int .i64 (cmpL (rk r) (rk s))) := by
  obtain ⟨k1, l1, rfl, hl1, ho1⟩ := hr
  obtain ⟨k2, l2, rfl, hl2, ho2⟩ := hs
  refine ret_enter Try.func139 rfl Try.ntmps139 rfl ?_
  have cx := Ctx.start w0
  refine wp_seq ?_
  refine wp_region_lit ?_
  refine s_box cx rfl rfl rfl rfl rfl ?_; intro b2 w cx hb2 hw2
  refine s_box cx rfl rfl rfl rfl rfl ?_; intro b3 w cx hb3 hw3
  refine s_val rfl rfl (v_assign rfl rfl) ?_
  refine wpList_nil ?_
  refine wp_seq ?_
  refine wp_region_lit ?_
  refine s_val rfl rfl (v_fa fa77_0 rfl rfl) ?_
  refine s_val rfl rfl (v_load1 rfl rfl Try.underlying9 rfl (cx.cell 1 rfl rfl)) ?_
  refine s_val rfl rfl (v_fa fa77_0 rfl rfl) ?_
  refine s_val rfl rfl (v_load1 rfl rfl Try.underlying9 rfl (cx.cell 0 rfl rfl)) ?_
  refine s_fn cx (c140 _ _ _) Try.func140 rfl rfl rfl rfl rfl rfl ?_; intro q9 w cx hw9 hp9
  subst hp9
  refine s_val rfl rfl (v_assign rfl rfl) ?_
  refine wpList_nil ?_
  refine wp_ret ?_
  refine ret_tmp Try.results139 rfl ?_
  exact ⟨cx.ext, rfl⟩
theorem Rw.mid {A X Z B : List (List Value)} (h : ∀ r ∈ A ++ X ++ B, Rw r) (hp : Z.Perm X) : ∀ r ∈ A ++ Z ++ B, Rw r := by
  intro r hr
  refine h r ?_
  simp only [List.mem_append, hp.mem_iff] at hr ⊢
  exact hr
theorem ins_done {S1 S2 T : List (List Value)} {x : List Value} (hS : (S1 ++ S2).Pairwise Lt) (hd : Df ((S1 ++ S2) ++ x :: T)) (h2 : ∀ z ∈ S2, Lt x z) (h1 : 0 < S1.length → ¬ Lt x (S1.getD (S1.length - 1) [])) : (S1 ++ x :: S2).Pairwise Lt := by
  rw [List.pairwise_append] at hS ⊢
  refine ⟨hS.1, List.pairwise_cons.2 ⟨h2, hS.2.1⟩, fun a ha b hb => ?_⟩
  rcases List.mem_cons.1 hb with rfl | hb
  · obtain ⟨i, hi⟩ := List.getElem?_of_mem ha
    have hil := (List.getElem?_eq_some_iff.1 hi).1
    have hn := h1 (by omega)
    have hy : S1[S1.length - 1]? = some (S1.getD (S1.length - 1) []) := by rw [List.getD, List.getElem?_eq_getElem (by omega)]; rfl
    have hlt : Lt (S1.getD (S1.length - 1) []) b := by
      refine Lt.of_not ?_ hn
      have := (List.pairwise_append.1 hd).2.2 (S1.getD (S1.length - 1) []) (List.mem_append_left _ (List.mem_of_getElem? hy)) b (by simp)
      exact fun e => this e.symm
    by_cases e : i = S1.length - 1
    · rw [e, hy] at hi
      rw [← Option.some.inj hi]; exact hlt
    · exact Lt.trans _ _ _ (pw_idx hS.1 (by omega) hi hy) hlt
  · exact hS.2.2 a ha b hb
def FV : Value := .func (.func 139) #[] #[]
set_option maxRecDepth 10000 in
set_option maxHeartbeats 3200000 in
theorem c149 (wb : World) (L : List (Nat × Obj)) (R : List Row) (v : Value) (n : Nat) (A X B : List (List Value)) (a b : Int) (w0 : World) (cx : Cxr wb w0 L (⟨77, 14, v, n, (A ++ X ++ B).flatten⟩ :: R)) (hRs : ∀ r ∈ A ++ X ++ B, Rw r) (hn : (A ++ X ++ B).length = n) (hn1 : n ≤ 1048576) (hd : Df X)
    (ha : a = A.length) (hb : b = (A.length + X.length : Nat)) : Ret Try.prog 149 [v, .int .i64 a, .int .i64 b, FV] w0 (fun _ w' => ∃ Z : List (List Value), Z.Perm X ∧ Z.Pairwise Lt ∧ Cxr wb w' L (⟨77, 14, v, n, (A ++ Z ++ B).flatten⟩ :: R)) := by
  refine ret_enter Try.func149 rfl Try.ntmps149 rfl ?_
  have hnle : A.length + X.length + B.length = n := by simpa [Nat.add_assoc] using hn
  refine wp_seq ?_
  refine wp_region_lit ?_
  refine s_val rfl rfl (v_move rfl rfl) ?_
  refine s_val rfl rfl (v_add rfl rfl rfl (by omega) (by omega)) ?_
  refine s_val rfl rfl (v_assign rfl rfl) ?_
  refine wpList_nil ?_
  refine wp_block ?_
  refine w_loop (fun k f w1 => ∃ (S T : List (List Value)) (i : Int), k = T.length ∧ f 0 = v ∧ f 1 = .int .i64 a ∧ f 2 = .int .i64 b ∧ f 3 = FV ∧ f 8 = .int .i64 i ∧ 0 ≤ i ∧ i ≤ 1048577 ∧ (i = a + S.length ∨ T = [] ∧ b ≤ i) ∧ S.Pairwise Lt ∧ (S ++ T).Perm X ∧ Cxr wb w1 L (⟨77, 14, v, n, (A ++ (S ++ T) ++ B).flatten⟩ :: R)) ((X.drop 1).length) ?_ ?_
  · skip
    refine ⟨X.take 1, X.drop 1, a + 1, rfl, rfl, rfl, rfl, rfl, rfl, by omega, by omega, ?_, ?_, by rw [List.take_append_drop], by rw [List.take_append_drop]; exact cx⟩
    · cases X with
      | nil => exact .inr ⟨rfl, by simp at hb; omega⟩
      | cons x X => exact .inl (by simp)
    · cases X with
      | nil => simp
      | cons x X => simp
  intro gk1 f w hJ
  obtain ⟨S, T, i, hk, hs0, hs1, hs2, hs3, hs8, hi0, hi1, hi, hS, hp, cx⟩ := hJ
  refine wp_seq ?_
  refine wp_seq ?_
  refine wp_region_lit ?_
  refine s_val rfl rfl (v_move rfl hs8) ?_
  refine s_val rfl rfl (v_move rfl hs2) ?_
  refine s_val rfl rfl (v_cmp rfl rfl rfl rfl) ?_
  refine wpList_nil ?_
  refine c_split rfl (fun hc14 => ?_) (fun hc14 => ?_)
  · skip
    try simp only [bsl] at hc14
    obtain ⟨x, T', rfl⟩ : ∃ x T', T = x :: T' := by
      cases T with
      | nil =>
        exfalso
        have := hp.length_eq
        simp at this
        rcases hi with hi | ⟨_, hi⟩ <;> omega
      | cons x T' => exact ⟨x, T', rfl⟩
    have hlp := hp.length_eq
    simp only [List.length_append, List.length_cons] at hlp
    replace hi : i = a + S.length := by
      rcases hi with hi | ⟨hi, _⟩
      · exact hi
      · cases hi
    refine wp_skip ?_
    refine wp_seq ?_
    refine wp_block ?_
    refine wp_seq ?_
    refine wp_region_lit ?_
    refine s_val rfl rfl (v_move rfl hs8) ?_
    refine s_val rfl rfl (v_assign rfl rfl) ?_
    refine wpList_nil ?_
    refine wp_block ?_
    refine w_loop (fun k f w1 => ∃ (S1 S2 : List (List Value)), k = S1.length ∧ f 0 = v ∧ f 1 = .int .i64 a ∧ f 2 = .int .i64 b ∧ f 3 = FV ∧ f 8 = .int .i64 i ∧ f 9 = .int .i64 (a + S1.length) ∧ S1 ++ S2 = S ∧ (∀ z ∈ S2, Lt x z) ∧ Cxr wb w1 L (⟨77, 14, v, n, (A ++ (S1 ++ x :: S2 ++ T') ++ B).flatten⟩ :: R)) (S.length) ?_ ?_
    · skip
      refine ⟨S, [], rfl, hs0, hs1, hs2, hs3, hs8, ?_, by simp, by simp, by simpa using cx⟩
      show Value.int .i64 i = _; rw [hi]
    intro gk4 f w hJ
    obtain ⟨S1, S2, hk2, hs0, hs1, hs2, hs3, hs8, hs9, hS12, h2, cxi⟩ := hJ
    subst hS12
    replace cx := cxi
    have hpp : (S1 ++ x :: S2 ++ T').Perm X := by
      refine List.Perm.trans ?_ hp
      simp only [List.append_assoc]
      refine List.Perm.append_left S1 ?_
      simp only [List.cons_append]
      exact List.perm_middle.symm
    have hRs1 := Rw.mid hRs hpp
    have hlen : (A ++ (S1 ++ x :: S2 ++ T') ++ B).length = n := by
      have := hpp.length_eq
      simp only [List.length_append] at this ⊢; omega
    have hl12 : S1.length + S2.length + 1 + T'.length = X.length := by simp at hlp; omega
    have hgx0 : (A ++ (S1 ++ x :: S2 ++ T') ++ B)[((a + S1.length : Int)).toNat]? = some x := by
      have e : A ++ (S1 ++ x :: S2 ++ T') ++ B = (A ++ S1) ++ x :: (S2 ++ T' ++ B) := by simp
      rw [e, show ((a + S1.length : Int)).toNat = (A ++ S1).length by simp; omega, get_mid]
    have hrx : Rw x := hRs1 x (by simp)
    have hyy : 0 < S1.length → S1[S1.length - 1]? = some (S1.getD (S1.length - 1) []) ∧ Rw (S1.getD (S1.length - 1) []) := by
      intro h0
      have h1 : S1[S1.length - 1]? = some (S1.getD (S1.length - 1) []) := by rw [List.getD, List.getElem?_eq_getElem (by omega)]; rfl
      exact ⟨h1, hRs1 _ (by simp only [List.mem_append]; exact .inl (.inr (.inl (.inl (List.mem_of_getElem? h1)))))⟩
    have hgy0 : 0 < S1.length → (A ++ (S1 ++ x :: S2 ++ T') ++ B)[((a + S1.length - 1 : Int)).toNat]? = some (S1.getD (S1.length - 1) []) := by
      intro h0
      have e : A ++ (S1 ++ x :: S2 ++ T') ++ B = A ++ (S1 ++ (x :: S2 ++ T' ++ B)) := by simp
      rw [e, List.getElem?_append_right (by omega), List.getElem?_append_left (by omega), show ((a + S1.length - 1 : Int)).toNat - A.length = S1.length - 1 by omega]
      exact (hyy h0).1
    obtain ⟨g, c, rfl⟩ := cx.el hRs1 hlen hgx0
    refine wp_seq ?_
    refine wp_seq ?_
    refine w_quiet cx mixed (by kernel_rfl) ?_
    refine q_val rfl rfl (fun w cx hwQ => v_move rfl hs9) ?_
    refine q_val rfl rfl (fun w cx hwQ => v_move rfl hs1) ?_
    refine q_val rfl rfl (fun w cx hwQ => v_cmp rfl rfl rfl rfl) ?_
    refine q_val rfl rfl (fun w cx hwQ => v_move rfl rfl) ?_
    refine q_gval rfl rfl rfl wT (fun hc w cx hwQ => v_move rfl hs3) ?_
    refine q_gval rfl rfl rfl wT (fun hc w cx hwQ => v_move rfl hs0) ?_
    refine q_gval rfl rfl rfl wT (fun hc w cx hwQ => v_move rfl hs9) ?_
    refine q_gval rfl rfl rfl wT (fun hc w cx hwQ => v_ia Try.underlying31 sz77 rfl (gve hc rfl) (gve hc rfl) (by omega) (by omega)) ?_
    refine q_gval rfl rfl rfl wT (fun hc w cx hwQ => v_load rfl (gve hc rfl) Try.underlying77 rfl sz77 (cx.elAt hRs1 hlen hgx0) hrx.len) ?_
    refine q_gval rfl rfl rfl wT (fun hc w cx hwQ => v_move rfl hs0) ?_
    refine q_gval rfl rfl rfl wT (fun hc w cx hwQ => v_move rfl hs9) ?_
    refine q_gval rfl rfl rfl wT (fun hc w cx hwQ => v_sub rfl (gve hc rfl) rfl (by omega) (by omega)) ?_
    refine q_gval rfl rfl rfl wT (fun hc w cx hwQ => v_ia Try.underlying31 sz77 rfl (gve hc rfl) (gve hc rfl) (by have := of_decide_eq_true hc; omega) (by have := of_decide_eq_true hc; omega)) ?_
    refine q_gval rfl rfl rfl wT (fun hc w cx hwQ => v_load rfl (gve hc rfl) Try.underlying77 rfl sz77 (cx.elAt hRs1 hlen (hgy0 (by have := of_decide_eq_true hc; omega))) (hyy (by have := of_decide_eq_true hc; omega)).2.len) ?_
    refine q_gcall rfl rfl rfl wT (fun hc => runs_fnv0 Try.func139 rfl rfl rfl (gve hc rfl) (cons_eq (gve hc rfl) (cons_eq (gve hc rfl) rfl))) (fun hc w cx hwQ => c139 _ _ _ hrx (hyy (by have := of_decide_eq_true hc; omega)).2) ?_
    refine q_gval rfl rfl rfl wT (fun hc w cx hwQ => v_cmp rfl (by first | exact gve hc rfl | exact gve (and_l hc) rfl | exact gve (and_l (and_l hc)) rfl | rfl) rfl rfl) ?_
    refine q_val rfl rfl (fun w cx hwQ => v_and rfl rfl rfl rfl) ?_
    refine q_nil ?_; rintro w ⟨cx, hwQ4⟩
    refine c_split rfl (fun hc34 => ?_) (fun hc34 => ?_)
    · skip
      try simp only [bsl] at hc34
      obtain ⟨hcj, hcl⟩ := hc34
      obtain ⟨hy, hry⟩ := hyy (by omega)
      have hS1 : S1 = S1.take (S1.length - 1) ++ [S1.getD (S1.length - 1) []] := by
        have h1 := List.take_succ_eq_append_getElem (l := S1) (i := S1.length - 1) (by omega)
        rw [show S1.length - 1 + 1 = S1.length by omega, List.take_length] at h1
        rw [List.getD, hy]
        conv => lhs; rw [h1]
        rw [List.getElem?_eq_getElem (by omega)] at hy
        rw [Option.some.inj hy]; rfl
      generalize S1.getD (S1.length - 1) [] = y at *
      have est : A ++ (S1 ++ x :: S2 ++ T') ++ B = (A ++ S1.take (S1.length - 1)) ++ y :: ([] ++ x :: (S2 ++ T' ++ B)) := by
        conv => lhs; rw [hS1]
        simp
      have hlenP : (A ++ S1.take (S1.length - 1)).length + 1 = A.length + S1.length := by simp; omega
      have est' : A ++ (S1.take (S1.length - 1) ++ x :: (y :: S2) ++ T') ++ B = (A ++ S1.take (S1.length - 1)) ++ x :: ([] ++ y :: (S2 ++ T' ++ B)) := by simp
      rw [est] at cx hRs1 hlen
      generalize hP : A ++ S1.take (S1.length - 1) = P at *
      have hi' : ((a + S1.length - 1 : Int)).toNat = P.length := by omega
      have hj' : ((a + S1.length : Int)).toNat = P.length + 1 + ([] : List (List Value)).length := by simp only [List.length_nil]; omega
      have hgy := get_mid1 P [] (S2 ++ T' ++ B) y x hi'
      have hgx := get_mid2 P [] (S2 ++ T' ++ B) y x hj'
      have hiy := (List.getElem?_eq_some_iff.1 hgy).1
      have hjx := (List.getElem?_eq_some_iff.1 hgx).1
      refine wp_skip ?_
      refine wp_seq ?_
      refine wp_block ?_
      refine w_ord cx (Ctx.sub0 cx) mixed [(0, 37), (1, 38), (2, 39), (3, 40), (4, 41), (5, 42), (6, 43), (7, 44), (8, 45), (10, 47), (11, 48), (12, 49)] #[true, true, true, true, true, true, true, true, true, false, true, true, true, false, false, false, false, false] (by kernel_rfl) (by kernel_rfl) (by kernel_rfl) (by kernel_rfl) ?_
      refine pu_one rfl (wnt_none rfl) (fun w cx => v_move rfl hs0) ?_
      refine pu_one rfl (wnt_none rfl) (fun w cx => v_move rfl hs9) ?_
      refine pu_one rfl (wnt_none rfl) (fun w cx => v_move rfl hs0) ?_
      refine pu_one rfl (wnt_none rfl) (fun w cx => v_move rfl hs9) ?_
      refine pu_one rfl (wnt_none rfl) (fun w cx => v_sub rfl rfl rfl (by omega) (by omega)) ?_
      refine pu_one rfl (wnt_none rfl) (fun w cx => v_move rfl hs0) ?_
      refine pu_one rfl (wnt_none rfl) (fun w cx => v_move rfl hs9) ?_
      refine pu_one rfl (wnt_none rfl) (fun w cx => v_sub rfl rfl rfl (by omega) (by omega)) ?_
      refine pu_one rfl (wnt_none rfl) (fun w cx => v_ia Try.underlying31 sz77 rfl rfl rfl (by omega) (by omega)) ?_
      refine pu_one rfl (wnt_none rfl) (fun w cx => v_move rfl hs0) ?_
      refine pu_one rfl (wnt_none rfl) (fun w cx => v_move rfl hs9) ?_
      refine pu_one rfl (wnt_none rfl) (fun w cx => v_ia Try.underlying31 sz77 rfl rfl rfl (by omega) (by omega)) ?_
      refine pu_nil ?_; intro w cx hwD6
      refine x_two (i := 9) (j := 13) (by kernel_rfl) rfl rfl ?_ ?_
      · skip
        refine s_val rfl rfl (v_load rfl rfl Try.underlying77 rfl sz77 (cx.elAt hRs1 hlen hgy) hry.len) ?_
        refine x_next ⟨.inl (Ctx.sub0 cx), ?_⟩
        refine x_one (i := 13) (by kernel_rfl) rfl ?_
        refine s_val rfl rfl (v_load rfl rfl Try.underlying77 rfl sz77 (cx.elAt hRs1 hlen hgx) hrx.len) ?_
        refine x_next ⟨.inl (Ctx.sub0 cx), ?_⟩
        refine x_one (i := 14) (by kernel_rfl) rfl ?_
        refine s_val rfl rfl (v_ia Try.underlying31 sz77 rfl rfl rfl (by omega) (by omega)) ?_
        refine x_next ⟨.inl (Ctx.sub0 cx), ?_⟩
        refine x_one (i := 15) (by kernel_rfl) rfl ?_
        refine s_storeEl cx rfl rfl rfl rfl rfl sz77 hRs1 hlen hjx hry ?_; intro w cx
        refine x_next ⟨.inl (Ctx.sub0 cx), ?_⟩
        refine x_one (i := 16) (by kernel_rfl) rfl ?_
        refine s_val rfl rfl (v_ia Try.underlying31 sz77 rfl rfl rfl (by omega) (by omega)) ?_
        refine x_next ⟨.inr (by kernel_rfl), ?_⟩
        refine x_one (i := 17) (by kernel_rfl) rfl ?_
        refine s_storeEl cx rfl rfl rfl rfl rfl sz77 (Rw.set hRs1 _ hry) (by simpa using hlen) (by simpa using hiy) hrx ?_; intro w cx
        rw [sw_mid' P [] (S2 ++ T' ++ B) y x hi' hj'] at cx
        refine x_next ⟨.inr (by kernel_rfl), ?_⟩
        refine x_done (by kernel_rfl) ?_
        refine wp_region_lit ?_
        refine s_val rfl rfl (v_move rfl hs9) ?_
        refine s_val rfl rfl (v_sub rfl rfl rfl (by omega) (by omega)) ?_
        refine s_val rfl rfl (v_assign rfl rfl) ?_
        refine wpList_nil ?_
        refine ⟨S1.length - 1, _, by omega, rfl, S1.take (S1.length - 1), y :: S2, by rw [List.length_take]; omega, hs0, hs1, hs2, hs3, hs8, ?_, ?_, ?_, ?_⟩
        · rw [List.length_take, Nat.min_eq_left (by omega)]
          show Value.int .i64 _ = _
          congr 1; omega
        · conv => rhs; rw [hS1]
          simp
        · intro z hz
          rcases List.mem_cons.1 hz with rfl | hz
          · exact hcl
          · exact h2 z hz
        · rw [est']
          exact cx
      refine s_val rfl rfl (v_load rfl rfl Try.underlying77 rfl sz77 (cx.elAt hRs1 hlen hgx) hrx.len) ?_
      refine x_next ⟨.inl (Ctx.sub0 cx), ?_⟩
      refine x_one (i := 9) (by kernel_rfl) rfl ?_
      refine s_val rfl rfl (v_load rfl rfl Try.underlying77 rfl sz77 (cx.elAt hRs1 hlen hgy) hry.len) ?_
      refine x_next ⟨.inl (Ctx.sub0 cx), ?_⟩
      refine x_one (i := 14) (by kernel_rfl) rfl ?_
      refine s_val rfl rfl (v_ia Try.underlying31 sz77 rfl rfl rfl (by omega) (by omega)) ?_
      refine x_next ⟨.inl (Ctx.sub0 cx), ?_⟩
      refine x_one (i := 15) (by kernel_rfl) rfl ?_
      refine s_storeEl cx rfl rfl rfl rfl rfl sz77 hRs1 hlen hjx hry ?_; intro w cx
      refine x_next ⟨.inl (Ctx.sub0 cx), ?_⟩
      refine x_one (i := 16) (by kernel_rfl) rfl ?_
      refine s_val rfl rfl (v_ia Try.underlying31 sz77 rfl rfl rfl (by omega) (by omega)) ?_
      refine x_next ⟨.inr (by kernel_rfl), ?_⟩
      refine x_one (i := 17) (by kernel_rfl) rfl ?_
      refine s_storeEl cx rfl rfl rfl rfl rfl sz77 (Rw.set hRs1 _ hry) (by simpa using hlen) (by simpa using hiy) hrx ?_; intro w cx
      rw [sw_mid' P [] (S2 ++ T' ++ B) y x hi' hj'] at cx
      refine x_next ⟨.inr (by kernel_rfl), ?_⟩
      refine x_done (by kernel_rfl) ?_
      refine wp_region_lit ?_
      refine s_val rfl rfl (v_move rfl hs9) ?_
      refine s_val rfl rfl (v_sub rfl rfl rfl (by omega) (by omega)) ?_
      refine s_val rfl rfl (v_assign rfl rfl) ?_
      refine wpList_nil ?_
      refine ⟨S1.length - 1, _, by omega, rfl, S1.take (S1.length - 1), y :: S2, by rw [List.length_take]; omega, hs0, hs1, hs2, hs3, hs8, ?_, ?_, ?_, ?_⟩
      · rw [List.length_take, Nat.min_eq_left (by omega)]
        show Value.int .i64 _ = _
        congr 1; omega
      · conv => rhs; rw [hS1]
        simp
      · intro z hz
        rcases List.mem_cons.1 hz with rfl | hz
        · exact hcl
        · exact h2 z hz
      · rw [est']
        exact cx
    try simp only [bsl] at hc34
    have hex : 0 < S1.length → ¬ Lt x (S1.getD (S1.length - 1) []) := by
      intro h0 hl
      rcases hc34 with h | h
      · omega
      · exact h hl
    refine wp_exit ?_
    refine wp_region_lit ?_
    refine s_val rfl rfl (v_move rfl hs8) ?_
    refine s_val rfl rfl (v_add rfl rfl rfl (by omega) (by omega)) ?_
    refine s_val rfl rfl (v_assign rfl rfl) ?_
    refine wpList_nil ?_
    refine ⟨T'.length, _, by rw [hk, List.length_cons]; omega, rfl, S1 ++ x :: S2, T', i + 1, rfl, hs0, hs1, hs2, hs3, rfl, by omega, by omega, .inl (by simp; omega), ins_done hS (hd.perm hp.symm) h2 hex, ?_, cx⟩
    refine List.Perm.trans ?_ hp
    simp only [List.append_assoc]
    refine List.Perm.append_left S1 ?_
    simp only [List.cons_append]
    exact List.perm_middle.symm
  try simp only [bsl] at hc14
  have hT : T = [] := by
    rcases hi with hi | ⟨hi, _⟩
    · have := hp.length_eq
      simp at this
      exact List.eq_nil_of_length_eq_zero (by omega)
    · exact hi
  refine wp_exit ?_
  refine ret_no (.inr rfl) Try.results149 ?_
  rw [hT, List.append_nil] at cx hp
  exact ⟨S, hp, hS, cx⟩
end Go.Proofs.Ytmkihcdcgkdilaa
end
section
set_option linter.unusedVariables false
set_option linter.unusedSimpArgs false
namespace Go.Dk
open Go Go.RowKit
abbrev Els := List (List Value)
theorem split_XY (A X Y B : Els) (s e : Nat) : A ++ (X ++ Y) ++ B = (A ++ X.take s) ++ X.drop s ++ Y.take e ++ (Y.drop e ++ B) := by
  conv => lhs; rw [← List.take_append_drop s X, ← List.take_append_drop e Y]
  simp only [List.append_assoc]
theorem getD_some {X : Els} {j : Nat} (hj : j < X.length) : X[j]? = some (X.getD j []) := by rw [List.getD, List.getElem?_eq_getElem hj]; rfl
theorem atX {A X Y B : Els} {q : Int} {j : Nat} (hj : j < X.length) (hq : q.toNat = A.length + j) : (A ++ (X ++ Y) ++ B)[q.toNat]? = some (X.getD j []) := by
  rw [hq, List.append_assoc, List.getElem?_append_right (by omega), Nat.add_sub_cancel_left, List.append_assoc, List.getElem?_append_left (by omega), getD_some hj]
theorem atY {A X Y B : Els} {q : Int} {j : Nat} (hj : j < Y.length) (hq : q.toNat = A.length + X.length + j) : (A ++ (X ++ Y) ++ B)[q.toNat]? = some (Y.getD j []) := by
  rw [hq, List.append_assoc, List.getElem?_append_right (by omega), Nat.add_assoc, Nat.add_sub_cancel_left, List.append_assoc, List.getElem?_append_right (by omega), Nat.add_sub_cancel_left, List.getElem?_append_left (by omega), getD_some hj]
theorem getD_mem {X : Els} {j : Nat} (hj : j < X.length) : X.getD j [] ∈ X := List.mem_of_getElem? (getD_some hj)
theorem Df.xy {X Y : Els} (h : Df (X ++ Y)) {i j : Nat} (hi : i < X.length) (hj : j < Y.length) : rk (X.getD i []) ≠ rk (Y.getD j []) :=
  (List.pairwise_append.1 h).2.2 _ (getD_mem hi) _ (getD_mem hj)
theorem merge2G {X Y Z1 Z2 : Els} (hX : X.Pairwise Lt) (hY : Y.Pairwise Lt) {s e : Nat} (hs : s ≤ X.length) (he : e ≤ Y.length) (h1 : 0 < s → e < Y.length → Lt (X.getD (s - 1) []) (Y.getD e []))
    (h2 : 0 < e → s < X.length → Lt (Y.getD (e - 1) []) (X.getD s [])) (p1 : Z1.Perm (X.take s ++ Y.take e)) (p2 : Z2.Perm (X.drop s ++ Y.drop e)) (s1 : Z1.Pairwise Lt) (s2 : Z2.Pairwise Lt) : (Z1 ++ Z2).Pairwise Lt ∧ (Z1 ++ Z2).Perm (X ++ Y) := by
  refine merge2 Lt.trans hX hY ?_ ?_ p1 p2 s1 s2
  · rcases Nat.eq_zero_or_pos s with h0 | h0
    · exact .inl h0
    · rcases Nat.lt_or_ge e Y.length with h3 | h3
      · exact .inr (.inr ⟨_, _, getD_some (by omega), getD_some h3, h1 h0 h3⟩)
      · exact .inr (.inl h3)
  · rcases Nat.eq_zero_or_pos e with h0 | h0
    · exact .inl h0
    · rcases Nat.lt_or_ge s X.length with h3 | h3
      · exact .inr (.inr ⟨_, _, getD_some (by omega), getD_some h3, h2 h0 h3⟩)
      · exact .inr (.inl h3)
theorem ins_at {Y : Els} {x : List Value} (hY : Y.Pairwise Lt) {i : Nat} (hi : i ≤ Y.length) (h1 : 0 < i → Lt (Y.getD (i - 1) []) x) (h2 : i < Y.length → Lt x (Y.getD i [])) : (Y.take i ++ x :: Y.drop i).Pairwise Lt := by
  have e : Y.take i ++ x :: Y.drop i = (Y.take i ++ [x]) ++ Y.drop i := by simp
  rw [e]
  have hx : ([x] : Els).Pairwise Lt := List.pairwise_singleton _ _
  refine (merge2G (Z1 := Y.take i ++ [x]) (Z2 := Y.drop i) hY hx (s := i) (e := 1) hi (by simp) (by simp) (fun _ h => by simpa using h2 h) (by simp) (by simp) ?_ (List.Pairwise.sublist (List.drop_sublist _ _) hY)).1
  rw [List.pairwise_append]
  refine ⟨List.Pairwise.sublist (List.take_sublist _ _) hY, hx, ?_⟩
  have := cross Lt.trans hY hx (s := i) (e := 0) (by
    rcases Nat.eq_zero_or_pos i with h0 | h0
    · exact .inl h0
    · exact .inr (.inr ⟨_, x, getD_some (by omega), rfl, h1 h0⟩))
  simpa using this
theorem shr1 (p : Int) : shr .u64 p (1 : Int).toNat = p / 2 := by
  unfold shr
  have e : min (1 : Int).toNat IntKind.u64.bits = 1 := by decide
  rw [e, Int.fdiv_eq_ediv_of_nonneg _ (by decide)]
  rfl
section
variable {P : Program} {ops : Array Oper} {Q : Exit → Act → World → Prop} {rest : List Oper} {o : Oper} {n : Nat} {f : Nat → Value} {w w0 : World} {L : List (Nat × Obj)} {R : List Row} {ρ : Operand → Value}
theorem v_convQ {s t : TypeId} {x : Operand} {k k' : IntKind} {m m' : Int} {d : TypeDesc} (ho : o.op = .convert s t x) (hx : ρ x = .int k' m) (hs : P.underlying s = some d) (ht : P.underlying t = some (.int k)) (he : k.wrap m = m') :
    (execOp ρ o).run P w = .ok (.value (.int k m')) w := by subst he; exact v_conv ho hx hs ht
theorem v_shr1 {t t' : TypeId} {x y : Operand} {p : Int} (ho : o.op = .binOp .shr t x y t') (hx : ρ x = .int .u64 p) (hy : ρ y = .int .u64 1) : (execOp ρ o).run P w = .ok (.value (.int .u64 (p / 2))) w := by
  have := v_shr (P := P) (w := w) ho hx hy (by decide)
  rwa [shr1] at this
theorem s_storeElV {t : TypeId} {x y : Operand} {k cap g j : Nat} {v : Value} {rs : Els} {l : List Value} (hv : v = .slice (some ⟨g, 0, none⟩) k cap) (cx : Cxr w0 w L (⟨77, 14, v, k, rs.flatten⟩ :: R)) (hg : o.guard = none) (hd : o.dst = none) (ho : o.op = .store t x y) (hx : ev n f x = .pointer (some ⟨g, 0 + j * 14, none⟩)) (hy : ev n f y = .agg l.toArray)
    (hs : (P.info? t).map (·.size) = some 14) (hrs : ∀ r ∈ rs, Rw r) (hk : rs.length = k) (hj : j < rs.length) (hl : Rw l)
    (h : ∀ w', Cxr w0 w' L (⟨77, 14, v, k, (rs.set j l).flatten⟩ :: R) → wpList P ops Q rest (St n f) w') : wpList P ops Q (o :: rest) (St n f) w := by
  subst hv
  exact s_storeEl cx hg hd ho hx hy hs hrs hk hj hl h
theorem Cxr.elV {k j g c : Nat} {v : Value} {rs : Els} {r : List Value} (cx : Cxr w0 w L (⟨77, 14, v, k, rs.flatten⟩ :: R)) (hv : v = .slice (some ⟨g, 0, none⟩) k c) (hrs : ∀ r ∈ rs, Rw r) (hk : rs.length = k) (hj : rs[j]? = some r) : RowAt w g (0 + j * 14) r := by
  subst hv
  exact cx.elAt hrs hk hj
end
end Go.Dk
end
section
namespace Go.Proofs.Ytmkihcdcgkdilaa
open Go Go.Dk Go.RowKit
set_option linter.unusedSimpArgs false
set_option linter.unusedVariables false
attribute [local irreducible] Go.wpList Go.Code.wp Go.bodyPost Go.wpStill Go.wpQuiet
set_option maxRecDepth 10000 in
set_option maxHeartbeats 6400000 in
theorem c150 : ∀ (k : Nat) (wb : World) (L : List (Nat × Obj)) (R : List Row) (v : Value) (n : Nat) (A X Y B : Els) (a m b : Int) (w0 : World), X.length + Y.length ≤ k → Cxr wb w0 L (⟨77, 14, v, n, (A ++ (X ++ Y) ++ B).flatten⟩ :: R) → (∀ r ∈ A ++ (X ++ Y) ++ B, Rw r) → (A ++ (X ++ Y) ++ B).length = n → n ≤ 1048576 → Df (X ++ Y) → X.Pairwise Lt → Y.Pairwise Lt → 0 < X.length → 0 < Y.length →
    a = A.length → m = (A.length + X.length : Nat) → b = (A.length + X.length + Y.length : Nat) → Ret Try.prog 150 [v, .int .i64 a, .int .i64 m, .int .i64 b, FV] w0 (fun _ w' => ∃ Z : Els, Z.Perm (X ++ Y) ∧ Z.Pairwise Lt ∧ Cxr wb w' L (⟨77, 14, v, n, (A ++ Z ++ B).flatten⟩ :: R)) := by
  intro k
  induction k with
  | zero => intro wb L R v n A X Y B a m b w0 hk0 cx hRs hn hn1 hd hX hY h0X h0Y ha hm hb; omega
  | succ k ih =>
  intro wb L R v n A X Y B a m b w0 hk0 cx hRs hn hn1 hd hX hY h0X h0Y ha hm hb
  obtain ⟨g, cc, hv⟩ := cx.el hRs hn (atX (A := A) (X := X) (Y := Y) (B := B) (q := a) (j := 0) h0X (by omega))
  have hnle : A.length + X.length + Y.length + B.length = n := by simpa [Nat.add_assoc] using hn
  refine ret_enter Try.func150 rfl Try.ntmps150 rfl ?_
  refine wp_seq ?_
  refine wp_seq ?_
  refine wp_region_lit ?_
  refine s_val rfl rfl (v_move rfl rfl) ?_
  refine s_val rfl rfl (v_move rfl rfl) ?_
  refine s_val rfl rfl (v_sub rfl rfl rfl (by omega) (by omega)) ?_
  refine s_val rfl rfl (v_cmp rfl rfl rfl rfl) ?_
  refine wpList_nil ?_
  refine c_split rfl (fun hc28 => ?_) (fun hc28 => ?_)
  · skip
    try simp only [bsl] at hc28
    obtain ⟨x, rfl⟩ : ∃ x, X = [x] := List.length_eq_one_iff.1 (by omega)
    have hX1 : ([x] : Els).length = 1 := rfl
    have hrx : Rw x := hRs x (by simp)
    have hgx : (A ++ ([x] ++ Y) ++ B)[(a : Int).toNat]? = some x := atX (A := A) (X := [x]) (Y := Y) (B := B) (q := a) (j := 0) (by omega) (by omega)
    have hdxy : ∀ j, j < Y.length → rk x ≠ rk (Y.getD j []) := fun j hj => hd.xy (i := 0) (by omega) hj
    have hpt : ∀ t, (Y.take t ++ x :: Y.drop t).Perm ([x] ++ Y) := fun t => by
      have := List.perm_middle (a := x) (l₁ := Y.take t) (l₂ := Y.drop t)
      rwa [List.take_append_drop] at this
    refine wp_seq ?_
    refine wp_region_lit ?_
    refine s_val rfl rfl (v_move rfl rfl) ?_
    refine s_val rfl rfl (v_assign rfl rfl) ?_
    refine wpList_nil ?_
    refine wp_seq ?_
    refine wp_region_lit ?_
    refine s_val rfl rfl (v_move rfl rfl) ?_
    refine s_val rfl rfl (v_assign rfl rfl) ?_
    refine wpList_nil ?_
    refine wp_seq ?_
    refine wp_block ?_
    refine w_loop (fun k f w1 => ∃ i j : Nat, k = j - i ∧ f 0 = v ∧ f 1 = .int .i64 a ∧ f 2 = .int .i64 m ∧ f 3 = .int .i64 b ∧ f 4 = FV ∧ f 10 = .int .i64 (m + i) ∧ f 11 = .int .i64 (m + j) ∧ i ≤ j ∧ j ≤ Y.length ∧ (0 < i → Lt (Y.getD (i - 1) []) x) ∧ (j < Y.length → ¬ Lt (Y.getD j []) x) ∧ Cxr wb w1 L (⟨77, 14, v, n, (A ++ ([x] ++ Y) ++ B).flatten⟩ :: R)) (Y.length) ?_ ?_
    · skip
      exact ⟨0, Y.length, rfl, rfl, rfl, rfl, rfl, rfl, by show Value.int .i64 m = _; congr 1; omega, by show Value.int .i64 b = _; congr 1; omega, by omega, by omega, fun h => by omega, fun h => by omega, cx⟩
    intro gk3 f w hJ
    obtain ⟨i, j, hk, hs0, hs1, hs2, hs3, hs4, hs10, hs11, hij, hjY, h1, h2, cx⟩ := hJ
    refine wp_seq ?_
    refine wp_seq ?_
    refine wp_region_lit ?_
    refine s_val rfl rfl (v_move rfl hs10) ?_
    refine s_val rfl rfl (v_move rfl hs11) ?_
    refine s_val rfl rfl (v_cmp rfl rfl rfl rfl) ?_
    refine wpList_nil ?_
    refine c_split rfl (fun hc33 => ?_) (fun hc33 => ?_)
    · skip
      try simp only [bsl] at hc33
      have hgy := atY (A := A) (X := [x]) (Y := Y) (B := B) (q := m + ((i + j) / 2 : Nat)) (j := (i + j) / 2) (by omega) (by omega)
      have hry : Rw (Y.getD ((i + j) / 2) []) := hRs _ (by simp only [List.mem_append]; exact .inl (.inr (.inr (getD_mem (by omega)))))
      refine wp_skip ?_
      refine wp_block ?_
      refine wp_seq ?_
      refine wp_region_lit ?_
      refine s_val rfl rfl (v_move rfl hs10) ?_
      refine s_val rfl rfl (v_move rfl hs11) ?_
      refine s_val rfl rfl (v_add rfl rfl rfl (by omega) (by omega)) ?_
      refine s_val rfl rfl (v_convQ rfl rfl Try.underlying3 Try.underlying170 (IntWalk.u64_in _ (by omega))) ?_
      refine s_val rfl rfl (v_shr1 rfl rfl rfl) ?_
      refine s_val rfl rfl (v_convQ rfl rfl Try.underlying170 Try.underlying3 (m' := m + ((i + j) / 2 : Nat)) (by rw [IntWalk.i64_in _ (by omega)]; omega)) ?_
      refine s_val rfl rfl (v_assign rfl rfl) ?_
      refine wpList_nil ?_
      refine wp_seq ?_
      refine w_quiet cx mixed (by kernel_rfl) ?_
      refine q_val rfl rfl (fun w cx hwQ => v_move rfl hs4) ?_
      refine q_val rfl rfl (fun w cx hwQ => v_move rfl hs0) ?_
      refine q_val rfl rfl (fun w cx hwQ => v_move rfl rfl) ?_
      refine q_val rfl rfl (fun w cx hwQ => v_ia Try.underlying31 sz77 rfl hv rfl (by omega) (by omega)) ?_
      refine q_val rfl rfl (fun w cx hwQ => v_load rfl rfl Try.underlying77 rfl sz77 (cx.elV hv hRs hn hgy) hry.len) ?_
      refine q_val rfl rfl (fun w cx hwQ => v_move rfl hs0) ?_
      refine q_val rfl rfl (fun w cx hwQ => v_move rfl hs1) ?_
      refine q_val rfl rfl (fun w cx hwQ => v_ia Try.underlying31 sz77 rfl hv rfl (by omega) (by omega)) ?_
      refine q_val rfl rfl (fun w cx hwQ => v_load rfl rfl Try.underlying77 rfl sz77 (cx.elV hv hRs hn hgx) hrx.len) ?_
      refine q_call rfl rfl (runs_fnv0 Try.func139 rfl rfl rfl rfl rfl) (fun w cx hwQ => c139 _ _ _ hry hrx) ?_
      refine q_val rfl rfl (fun w cx hwQ => v_cmp rfl rfl rfl rfl) ?_
      refine q_nil ?_; rintro w ⟨cx, hwQ5⟩
      refine c_split rfl (fun hc50 => ?_) (fun hc50 => ?_)
      · skip
        try simp only [bsl] at hc50
        refine wp_region_lit ?_
        refine s_val rfl rfl (v_move rfl rfl) ?_
        refine s_val rfl rfl (v_add rfl rfl rfl (by omega) (by omega)) ?_
        refine s_val rfl rfl (v_assign rfl rfl) ?_
        refine wpList_nil ?_
        exact ⟨j - ((i + j) / 2 + 1), _, by omega, rfl, (i + j) / 2 + 1, j, rfl, hs0, hs1, hs2, hs3, hs4, by show Value.int .i64 _ = _; congr 1; omega, hs11, by omega, by omega, fun _ => by rw [Nat.add_sub_cancel]; exact hc50, h2, cx⟩
      try simp only [bsl] at hc50
      refine wp_region_lit ?_
      refine s_val rfl rfl (v_move rfl rfl) ?_
      refine s_val rfl rfl (v_assign rfl rfl) ?_
      refine wpList_nil ?_
      exact ⟨(i + j) / 2 - i, _, by omega, rfl, i, (i + j) / 2, rfl, hs0, hs1, hs2, hs3, hs4, hs10, rfl, by omega, by omega, h1, fun _ => by unfold Lt; omega, cx⟩
    try simp only [bsl] at hc33
    obtain rfl : i = j := by omega
    refine wp_exit ?_
    refine wp_seq ?_
    refine wp_seq ?_
    refine wp_region_lit ?_
    refine s_val rfl rfl (v_move rfl hs1) ?_
    refine s_val rfl rfl (v_assign rfl rfl) ?_
    refine wpList_nil ?_
    refine wp_block ?_
    refine w_loop (fun k f w1 => ∃ t : Nat, k = i - t ∧ f 0 = v ∧ f 1 = .int .i64 a ∧ f 2 = .int .i64 m ∧ f 3 = .int .i64 b ∧ f 4 = FV ∧ f 10 = .int .i64 (m + i) ∧ f 13 = .int .i64 (a + t) ∧ t ≤ i ∧ Cxr wb w1 L (⟨77, 14, v, n, (A ++ (Y.take t ++ x :: Y.drop t) ++ B).flatten⟩ :: R)) (i) ?_ ?_
    · skip
      exact ⟨0, by omega, hs0, hs1, hs2, hs3, hs4, hs10, by show Value.int .i64 a = _; congr 1; omega, by omega, by simpa using cx⟩
    intro gk9 f w hJ
    obtain ⟨t, hk, hs0, hs1, hs2, hs3, hs4, hs10, hs13, hti, cx⟩ := hJ
    refine wp_seq ?_
    refine wp_seq ?_
    refine wp_region_lit ?_
    refine s_val rfl rfl (v_move rfl hs13) ?_
    refine s_val rfl rfl (v_move rfl hs10) ?_
    refine s_val rfl rfl (v_sub rfl rfl rfl (by omega) (by omega)) ?_
    refine s_val rfl rfl (v_cmp rfl rfl rfl rfl) ?_
    refine wpList_nil ?_
    refine c_split rfl (fun hc58 => ?_) (fun hc58 => ?_)
    · skip
      try simp only [bsl] at hc58
      obtain ⟨y, hy, hYs, hYt, hYd⟩ := split_at (l := Y) (i := t) (by omega)
      have hst : A ++ (Y.take t ++ x :: Y.drop t) ++ B = (A ++ Y.take t) ++ x :: ([] ++ y :: (Y.drop (t + 1) ++ B)) := by rw [hYd]; simp
      have hst' : A ++ (Y.take (t + 1) ++ x :: Y.drop (t + 1)) ++ B = (A ++ Y.take t) ++ y :: ([] ++ x :: (Y.drop (t + 1) ++ B)) := by rw [hYt]; simp
      have hlen : (A ++ (Y.take t ++ x :: Y.drop t) ++ B).length = n := by have := (hpt t).length_eq; rw [← hn]; simp only [List.length_append] at this ⊢; omega
      have hRs1 := Rw.mid hRs (hpt t)
      rw [hst] at cx hlen hRs1
      have hlP : (A ++ Y.take t).length = A.length + t := by simp; omega
      have hry : Rw y := hRs1 y (by simp)
      have hi' : ((a + t : Int)).toNat = (A ++ Y.take t).length := by omega
      have hj' : ((a + t + 1 : Int)).toNat = (A ++ Y.take t).length + 1 + ([] : Els).length := by simp only [List.length_nil]; omega
      have hgx' := get_mid1 (A ++ Y.take t) [] (Y.drop (t + 1) ++ B) x y hi'
      have hgy' := get_mid2 (A ++ Y.take t) [] (Y.drop (t + 1) ++ B) x y hj'
      have hix := (List.getElem?_eq_some_iff.1 hgx').1
      have hjy := (List.getElem?_eq_some_iff.1 hgy').1
      refine wp_skip ?_
      refine wp_seq ?_
      refine wp_block ?_
      refine w_ord cx (Ctx.sub0 cx) mixed [(0, 61), (1, 62), (2, 63), (3, 64), (4, 65), (5, 66), (6, 67), (7, 68), (8, 69), (10, 71), (11, 72), (12, 73)] #[true, true, true, true, true, true, true, true, true, false, true, true, true, false, false, false, false, false] (by kernel_rfl) (by kernel_rfl) (by kernel_rfl) (by kernel_rfl) ?_
      refine pu_one rfl (wnt_none rfl) (fun w cx => v_move rfl hs0) ?_
      refine pu_one rfl (wnt_none rfl) (fun w cx => v_move rfl hs13) ?_
      refine pu_one rfl (wnt_none rfl) (fun w cx => v_move rfl hs0) ?_
      refine pu_one rfl (wnt_none rfl) (fun w cx => v_move rfl hs13) ?_
      refine pu_one rfl (wnt_none rfl) (fun w cx => v_add rfl rfl rfl (by omega) (by omega)) ?_
      refine pu_one rfl (wnt_none rfl) (fun w cx => v_move rfl hs0) ?_
      refine pu_one rfl (wnt_none rfl) (fun w cx => v_move rfl hs13) ?_
      refine pu_one rfl (wnt_none rfl) (fun w cx => v_add rfl rfl rfl (by omega) (by omega)) ?_
      refine pu_one rfl (wnt_none rfl) (fun w cx => v_ia Try.underlying31 sz77 rfl hv rfl (by omega) (by omega)) ?_
      refine pu_one rfl (wnt_none rfl) (fun w cx => v_move rfl hs0) ?_
      refine pu_one rfl (wnt_none rfl) (fun w cx => v_move rfl hs13) ?_
      refine pu_one rfl (wnt_none rfl) (fun w cx => v_ia Try.underlying31 sz77 rfl hv rfl (by omega) (by omega)) ?_
      refine pu_nil ?_; intro w cx hwD11
      refine x_two (i := 9) (j := 13) (by kernel_rfl) rfl rfl ?_ ?_
      · skip
        refine s_val rfl rfl (v_load rfl rfl Try.underlying77 rfl sz77 (cx.elV hv hRs1 hlen hgy') hry.len) ?_
        refine x_next ⟨.inl (Ctx.sub0 cx), ?_⟩
        refine x_one (i := 13) (by kernel_rfl) rfl ?_
        refine s_val rfl rfl (v_load rfl rfl Try.underlying77 rfl sz77 (cx.elV hv hRs1 hlen hgx') hrx.len) ?_
        refine x_next ⟨.inl (Ctx.sub0 cx), ?_⟩
        refine x_one (i := 14) (by kernel_rfl) rfl ?_
        refine s_val rfl rfl (v_ia Try.underlying31 sz77 rfl hv rfl (by omega) (by omega)) ?_
        refine x_next ⟨.inl (Ctx.sub0 cx), ?_⟩
        refine x_one (i := 15) (by kernel_rfl) rfl ?_
        refine s_storeElV hv cx rfl rfl rfl rfl rfl sz77 hRs1 hlen hix hry ?_; intro w cx
        refine x_next ⟨.inl (Ctx.sub0 cx), ?_⟩
        refine x_one (i := 16) (by kernel_rfl) rfl ?_
        refine s_val rfl rfl (v_ia Try.underlying31 sz77 rfl hv rfl (by omega) (by omega)) ?_
        refine x_next ⟨.inr (by kernel_rfl), ?_⟩
        refine x_one (i := 17) (by kernel_rfl) rfl ?_
        refine s_storeElV hv cx rfl rfl rfl rfl rfl sz77 (Rw.set hRs1 _ hry) (by simpa using hlen) (by simpa using hjy) hrx ?_; intro w cx
        rw [sw_mid _ [] _ x y hi' hj'] at cx
        refine x_next ⟨.inr (by kernel_rfl), ?_⟩
        refine x_done (by kernel_rfl) ?_
        refine wp_region_lit ?_
        refine s_val rfl rfl (v_move rfl hs13) ?_
        refine s_val rfl rfl (v_add rfl rfl rfl (by omega) (by omega)) ?_
        refine s_val rfl rfl (v_assign rfl rfl) ?_
        refine wpList_nil ?_
        refine ⟨i - (t + 1), _, by omega, rfl, t + 1, rfl, hs0, hs1, hs2, hs3, hs4, hs10, by show Value.int .i64 _ = _; congr 1; omega, by omega, ?_⟩
        rw [hst']
        exact cx
      refine s_val rfl rfl (v_load rfl rfl Try.underlying77 rfl sz77 (cx.elV hv hRs1 hlen hgx') hrx.len) ?_
      refine x_next ⟨.inl (Ctx.sub0 cx), ?_⟩
      refine x_one (i := 9) (by kernel_rfl) rfl ?_
      refine s_val rfl rfl (v_load rfl rfl Try.underlying77 rfl sz77 (cx.elV hv hRs1 hlen hgy') hry.len) ?_
      refine x_next ⟨.inl (Ctx.sub0 cx), ?_⟩
      refine x_one (i := 14) (by kernel_rfl) rfl ?_
      refine s_val rfl rfl (v_ia Try.underlying31 sz77 rfl hv rfl (by omega) (by omega)) ?_
      refine x_next ⟨.inl (Ctx.sub0 cx), ?_⟩
      refine x_one (i := 15) (by kernel_rfl) rfl ?_
      refine s_storeElV hv cx rfl rfl rfl rfl rfl sz77 hRs1 hlen hix hry ?_; intro w cx
      refine x_next ⟨.inl (Ctx.sub0 cx), ?_⟩
      refine x_one (i := 16) (by kernel_rfl) rfl ?_
      refine s_val rfl rfl (v_ia Try.underlying31 sz77 rfl hv rfl (by omega) (by omega)) ?_
      refine x_next ⟨.inr (by kernel_rfl), ?_⟩
      refine x_one (i := 17) (by kernel_rfl) rfl ?_
      refine s_storeElV hv cx rfl rfl rfl rfl rfl sz77 (Rw.set hRs1 _ hry) (by simpa using hlen) (by simpa using hjy) hrx ?_; intro w cx
      rw [sw_mid _ [] _ x y hi' hj'] at cx
      refine x_next ⟨.inr (by kernel_rfl), ?_⟩
      refine x_done (by kernel_rfl) ?_
      refine wp_region_lit ?_
      refine s_val rfl rfl (v_move rfl hs13) ?_
      refine s_val rfl rfl (v_add rfl rfl rfl (by omega) (by omega)) ?_
      refine s_val rfl rfl (v_assign rfl rfl) ?_
      refine wpList_nil ?_
      refine ⟨i - (t + 1), _, by omega, rfl, t + 1, rfl, hs0, hs1, hs2, hs3, hs4, hs10, by show Value.int .i64 _ = _; congr 1; omega, by omega, ?_⟩
      rw [hst']
      exact cx
    try simp only [bsl] at hc58
    refine wp_exit ?_
    refine wp_ret ?_
    refine ret_no (.inl rfl) Try.results150 ?_
    obtain rfl : t = i := by omega
    exact ⟨_, hpt t, ins_at hY hjY (fun h => h1 h) (fun h => Lt.of_not (fun e => hdxy _ h e.symm) (h2 h)), cx⟩
  try simp only [bsl] at hc28
  refine wp_skip ?_
  refine wp_seq ?_
  refine wp_seq ?_
  refine wp_region_lit ?_
  refine s_val rfl rfl (v_move rfl rfl) ?_
  refine s_val rfl rfl (v_move rfl rfl) ?_
  refine s_val rfl rfl (v_sub rfl rfl rfl (by omega) (by omega)) ?_
  refine s_val rfl rfl (v_cmp rfl rfl rfl rfl) ?_
  refine wpList_nil ?_
  refine c_split rfl (fun hc80 => ?_) (fun hc80 => ?_)
  · skip
    try simp only [bsl] at hc80
    obtain ⟨y, rfl⟩ : ∃ y, Y = [y] := List.length_eq_one_iff.1 (by omega)
    have hY1 : ([y] : Els).length = 1 := rfl
    have hry : Rw y := hRs y (by simp)
    have hgy : (A ++ (X ++ [y]) ++ B)[(m : Int).toNat]? = some y := atY (A := A) (X := X) (Y := [y]) (B := B) (q := m) (j := 0) (by omega) (by omega)
    have hdxy : ∀ i, i < X.length → rk (X.getD i []) ≠ rk y := fun i hi => hd.xy (j := 0) hi (by omega)
    have hpt : ∀ t, (X.take t ++ y :: X.drop t).Perm (X ++ [y]) := fun t => by
      have := List.perm_middle (a := y) (l₁ := X.take t) (l₂ := X.drop t)
      rw [List.take_append_drop] at this
      exact this.trans (List.perm_append_comm (l₁ := [y]) (l₂ := X))
    refine wp_seq ?_
    refine wp_region_lit ?_
    refine s_val rfl rfl (v_move rfl rfl) ?_
    refine s_val rfl rfl (v_assign rfl rfl) ?_
    refine wpList_nil ?_
    refine wp_seq ?_
    refine wp_region_lit ?_
    refine s_val rfl rfl (v_move rfl rfl) ?_
    refine s_val rfl rfl (v_assign rfl rfl) ?_
    refine wpList_nil ?_
    refine wp_seq ?_
    refine wp_block ?_
    refine w_loop (fun k f w1 => ∃ i j : Nat, k = j - i ∧ f 0 = v ∧ f 1 = .int .i64 a ∧ f 2 = .int .i64 m ∧ f 3 = .int .i64 b ∧ f 4 = FV ∧ f 14 = .int .i64 (a + i) ∧ f 15 = .int .i64 (a + j) ∧ i ≤ j ∧ j ≤ X.length ∧ (0 < i → ¬ Lt y (X.getD (i - 1) [])) ∧ (j < X.length → Lt y (X.getD j [])) ∧ Cxr wb w1 L (⟨77, 14, v, n, (A ++ (X ++ [y]) ++ B).flatten⟩ :: R)) (X.length) ?_ ?_
    · skip
      exact ⟨0, X.length, rfl, rfl, rfl, rfl, rfl, rfl, by show Value.int .i64 a = _; congr 1; omega, by show Value.int .i64 m = _; congr 1; omega, by omega, by omega, fun h => by omega, fun h => by omega, cx⟩
    intro gk15 f w hJ
    obtain ⟨i, j, hk, hs0, hs1, hs2, hs3, hs4, hs14, hs15, hij, hjX, h1, h2, cx⟩ := hJ
    refine wp_seq ?_
    refine wp_seq ?_
    refine wp_region_lit ?_
    refine s_val rfl rfl (v_move rfl hs14) ?_
    refine s_val rfl rfl (v_move rfl hs15) ?_
    refine s_val rfl rfl (v_cmp rfl rfl rfl rfl) ?_
    refine wpList_nil ?_
    refine c_split rfl (fun hc85 => ?_) (fun hc85 => ?_)
    · skip
      try simp only [bsl] at hc85
      have hgx := atX (A := A) (X := X) (Y := [y]) (B := B) (q := a + ((i + j) / 2 : Nat)) (j := (i + j) / 2) (by omega) (by omega)
      have hrx : Rw (X.getD ((i + j) / 2) []) := hRs _ (by simp only [List.mem_append]; exact .inl (.inr (.inl (getD_mem (by omega)))))
      refine wp_skip ?_
      refine wp_block ?_
      refine wp_seq ?_
      refine wp_region_lit ?_
      refine s_val rfl rfl (v_move rfl hs14) ?_
      refine s_val rfl rfl (v_move rfl hs15) ?_
      refine s_val rfl rfl (v_add rfl rfl rfl (by omega) (by omega)) ?_
      refine s_val rfl rfl (v_convQ rfl rfl Try.underlying3 Try.underlying170 (IntWalk.u64_in _ (by omega))) ?_
      refine s_val rfl rfl (v_shr1 rfl rfl rfl) ?_
      refine s_val rfl rfl (v_convQ rfl rfl Try.underlying170 Try.underlying3 (m' := a + ((i + j) / 2 : Nat)) (by rw [IntWalk.i64_in _ (by omega)]; omega)) ?_
      refine s_val rfl rfl (v_assign rfl rfl) ?_
      refine wpList_nil ?_
      refine wp_seq ?_
      refine w_quiet cx mixed (by kernel_rfl) ?_
      refine q_val rfl rfl (fun w cx hwQ => v_move rfl hs4) ?_
      refine q_val rfl rfl (fun w cx hwQ => v_move rfl hs0) ?_
      refine q_val rfl rfl (fun w cx hwQ => v_move rfl hs2) ?_
      refine q_val rfl rfl (fun w cx hwQ => v_ia Try.underlying31 sz77 rfl hv rfl (by omega) (by omega)) ?_
      refine q_val rfl rfl (fun w cx hwQ => v_load rfl rfl Try.underlying77 rfl sz77 (cx.elV hv hRs hn hgy) hry.len) ?_
      refine q_val rfl rfl (fun w cx hwQ => v_move rfl hs0) ?_
      refine q_val rfl rfl (fun w cx hwQ => v_move rfl rfl) ?_
      refine q_val rfl rfl (fun w cx hwQ => v_ia Try.underlying31 sz77 rfl hv rfl (by omega) (by omega)) ?_
      refine q_val rfl rfl (fun w cx hwQ => v_load rfl rfl Try.underlying77 rfl sz77 (cx.elV hv hRs hn hgx) hrx.len) ?_
      refine q_call rfl rfl (runs_fnv0 Try.func139 rfl rfl rfl rfl rfl) (fun w cx hwQ => c139 _ _ _ hry hrx) ?_
      refine q_val rfl rfl (fun w cx hwQ => v_cmp rfl rfl rfl rfl) ?_
      refine q_val rfl rfl (fun w cx hwQ => v_not rfl rfl) ?_
      refine q_nil ?_; rintro w ⟨cx, hwQ17⟩
      refine c_split rfl (fun hc103 => ?_) (fun hc103 => ?_)
      · skip
        try simp only [bsl] at hc103
        refine wp_region_lit ?_
        refine s_val rfl rfl (v_move rfl rfl) ?_
        refine s_val rfl rfl (v_add rfl rfl rfl (by omega) (by omega)) ?_
        refine s_val rfl rfl (v_assign rfl rfl) ?_
        refine wpList_nil ?_
        exact ⟨j - ((i + j) / 2 + 1), _, by omega, rfl, (i + j) / 2 + 1, j, rfl, hs0, hs1, hs2, hs3, hs4, by show Value.int .i64 _ = _; congr 1; omega, hs15, by omega, by omega, fun _ => by rw [Nat.add_sub_cancel]; exact hc103, h2, cx⟩
      try simp only [bsl] at hc103
      refine wp_region_lit ?_
      refine s_val rfl rfl (v_move rfl rfl) ?_
      refine s_val rfl rfl (v_assign rfl rfl) ?_
      refine wpList_nil ?_
      exact ⟨(i + j) / 2 - i, _, by omega, rfl, i, (i + j) / 2, rfl, hs0, hs1, hs2, hs3, hs4, hs14, rfl, by omega, by omega, h1, fun _ => by unfold Lt; omega, cx⟩
    try simp only [bsl] at hc85
    obtain rfl : i = j := by omega
    refine wp_exit ?_
    refine wp_seq ?_
    refine wp_seq ?_
    refine wp_region_lit ?_
    refine s_val rfl rfl (v_move rfl hs2) ?_
    refine s_val rfl rfl (v_assign rfl rfl) ?_
    refine wpList_nil ?_
    refine wp_block ?_
    refine w_loop (fun k f w1 => ∃ t : Nat, k = t - i ∧ f 0 = v ∧ f 1 = .int .i64 a ∧ f 2 = .int .i64 m ∧ f 3 = .int .i64 b ∧ f 4 = FV ∧ f 14 = .int .i64 (a + i) ∧ f 17 = .int .i64 (a + t) ∧ i ≤ t ∧ t ≤ X.length ∧ Cxr wb w1 L (⟨77, 14, v, n, (A ++ (X.take t ++ y :: X.drop t) ++ B).flatten⟩ :: R)) (X.length - i) ?_ ?_
    · skip
      exact ⟨X.length, rfl, hs0, hs1, hs2, hs3, hs4, hs14, by show Value.int .i64 m = _; congr 1; omega, by omega, by omega, by simpa using cx⟩
    intro gk21 f w hJ
    obtain ⟨t, hk, hs0, hs1, hs2, hs3, hs4, hs14, hs17, hti, htX, cx⟩ := hJ
    refine wp_seq ?_
    refine wp_seq ?_
    refine wp_region_lit ?_
    refine s_val rfl rfl (v_move rfl hs17) ?_
    refine s_val rfl rfl (v_move rfl hs14) ?_
    refine s_val rfl rfl (v_cmp rfl rfl rfl rfl) ?_
    refine wpList_nil ?_
    refine c_split rfl (fun hc110 => ?_) (fun hc110 => ?_)
    · skip
      try simp only [bsl] at hc110
      obtain ⟨z, hz, hXs, hXt, hXd⟩ := split_at (l := X) (i := t - 1) (by omega)
      rw [show t - 1 + 1 = t by omega] at hXs hXt hXd
      have hst : A ++ (X.take t ++ y :: X.drop t) ++ B = (A ++ X.take (t - 1)) ++ z :: ([] ++ y :: (X.drop t ++ B)) := by rw [hXt]; simp
      have hst' : A ++ (X.take (t - 1) ++ y :: X.drop (t - 1)) ++ B = (A ++ X.take (t - 1)) ++ y :: ([] ++ z :: (X.drop t ++ B)) := by rw [hXd]; simp
      have hlen : (A ++ (X.take t ++ y :: X.drop t) ++ B).length = n := by have := (hpt t).length_eq; rw [← hn]; simp only [List.length_append] at this ⊢; omega
      have hRs1 := Rw.mid hRs (hpt t)
      rw [hst] at cx hlen hRs1
      have hlP : (A ++ X.take (t - 1)).length + 1 = A.length + t := by simp; omega
      have hrz : Rw z := hRs1 z (by simp)
      have hi' : ((a + t - 1 : Int)).toNat = (A ++ X.take (t - 1)).length := by omega
      have hj' : ((a + t : Int)).toNat = (A ++ X.take (t - 1)).length + 1 + ([] : Els).length := by simp only [List.length_nil]; omega
      have hgz' := get_mid1 (A ++ X.take (t - 1)) [] (X.drop t ++ B) z y hi'
      have hgy' := get_mid2 (A ++ X.take (t - 1)) [] (X.drop t ++ B) z y hj'
      have hiz := (List.getElem?_eq_some_iff.1 hgz').1
      have hjy := (List.getElem?_eq_some_iff.1 hgy').1
      refine wp_skip ?_
      refine wp_seq ?_
      refine wp_block ?_
      refine w_ord cx (Ctx.sub0 cx) mixed [(0, 113), (1, 114), (2, 115), (3, 116), (4, 117), (5, 118), (6, 119), (7, 120), (8, 121), (10, 123), (11, 124), (12, 125)] #[true, true, true, true, true, true, true, true, true, false, true, true, true, false, false, false, false, false] (by kernel_rfl) (by kernel_rfl) (by kernel_rfl) (by kernel_rfl) ?_
      refine pu_one rfl (wnt_none rfl) (fun w cx => v_move rfl hs0) ?_
      refine pu_one rfl (wnt_none rfl) (fun w cx => v_move rfl hs17) ?_
      refine pu_one rfl (wnt_none rfl) (fun w cx => v_move rfl hs0) ?_
      refine pu_one rfl (wnt_none rfl) (fun w cx => v_move rfl hs17) ?_
      refine pu_one rfl (wnt_none rfl) (fun w cx => v_sub rfl rfl rfl (by omega) (by omega)) ?_
      refine pu_one rfl (wnt_none rfl) (fun w cx => v_move rfl hs0) ?_
      refine pu_one rfl (wnt_none rfl) (fun w cx => v_move rfl hs17) ?_
      refine pu_one rfl (wnt_none rfl) (fun w cx => v_sub rfl rfl rfl (by omega) (by omega)) ?_
      refine pu_one rfl (wnt_none rfl) (fun w cx => v_ia Try.underlying31 sz77 rfl hv rfl (by omega) (by omega)) ?_
      refine pu_one rfl (wnt_none rfl) (fun w cx => v_move rfl hs0) ?_
      refine pu_one rfl (wnt_none rfl) (fun w cx => v_move rfl hs17) ?_
      refine pu_one rfl (wnt_none rfl) (fun w cx => v_ia Try.underlying31 sz77 rfl hv rfl (by omega) (by omega)) ?_
      refine pu_nil ?_; intro w cx hwD23
      refine x_two (i := 9) (j := 13) (by kernel_rfl) rfl rfl ?_ ?_
      · skip
        refine s_val rfl rfl (v_load rfl rfl Try.underlying77 rfl sz77 (cx.elV hv hRs1 hlen hgz') hrz.len) ?_
        refine x_next ⟨.inl (Ctx.sub0 cx), ?_⟩
        refine x_one (i := 13) (by kernel_rfl) rfl ?_
        refine s_val rfl rfl (v_load rfl rfl Try.underlying77 rfl sz77 (cx.elV hv hRs1 hlen hgy') hry.len) ?_
        refine x_next ⟨.inl (Ctx.sub0 cx), ?_⟩
        refine x_one (i := 14) (by kernel_rfl) rfl ?_
        refine s_val rfl rfl (v_ia Try.underlying31 sz77 rfl hv rfl (by omega) (by omega)) ?_
        refine x_next ⟨.inl (Ctx.sub0 cx), ?_⟩
        refine x_one (i := 15) (by kernel_rfl) rfl ?_
        refine s_storeElV hv cx rfl rfl rfl rfl rfl sz77 hRs1 hlen hjy hrz ?_; intro w cx
        refine x_next ⟨.inl (Ctx.sub0 cx), ?_⟩
        refine x_one (i := 16) (by kernel_rfl) rfl ?_
        refine s_val rfl rfl (v_ia Try.underlying31 sz77 rfl hv rfl (by omega) (by omega)) ?_
        refine x_next ⟨.inr (by kernel_rfl), ?_⟩
        refine x_one (i := 17) (by kernel_rfl) rfl ?_
        refine s_storeElV hv cx rfl rfl rfl rfl rfl sz77 (Rw.set hRs1 _ hrz) (by simpa using hlen) (by simpa using hiz) hry ?_; intro w cx
        rw [sw_mid' _ [] _ z y hi' hj'] at cx
        refine x_next ⟨.inr (by kernel_rfl), ?_⟩
        refine x_done (by kernel_rfl) ?_
        refine wp_region_lit ?_
        refine s_val rfl rfl (v_move rfl hs17) ?_
        refine s_val rfl rfl (v_sub rfl rfl rfl (by omega) (by omega)) ?_
        refine s_val rfl rfl (v_assign rfl rfl) ?_
        refine wpList_nil ?_
        refine ⟨t - 1 - i, _, by omega, rfl, t - 1, rfl, hs0, hs1, hs2, hs3, hs4, hs14, by show Value.int .i64 _ = _; congr 1; omega, by omega, by omega, ?_⟩
        rw [hst']
        exact cx
      refine s_val rfl rfl (v_load rfl rfl Try.underlying77 rfl sz77 (cx.elV hv hRs1 hlen hgy') hry.len) ?_
      refine x_next ⟨.inl (Ctx.sub0 cx), ?_⟩
      refine x_one (i := 9) (by kernel_rfl) rfl ?_
      refine s_val rfl rfl (v_load rfl rfl Try.underlying77 rfl sz77 (cx.elV hv hRs1 hlen hgz') hrz.len) ?_
      refine x_next ⟨.inl (Ctx.sub0 cx), ?_⟩
      refine x_one (i := 14) (by kernel_rfl) rfl ?_
      refine s_val rfl rfl (v_ia Try.underlying31 sz77 rfl hv rfl (by omega) (by omega)) ?_
      refine x_next ⟨.inl (Ctx.sub0 cx), ?_⟩
      refine x_one (i := 15) (by kernel_rfl) rfl ?_
      refine s_storeElV hv cx rfl rfl rfl rfl rfl sz77 hRs1 hlen hjy hrz ?_; intro w cx
      refine x_next ⟨.inl (Ctx.sub0 cx), ?_⟩
      refine x_one (i := 16) (by kernel_rfl) rfl ?_
      refine s_val rfl rfl (v_ia Try.underlying31 sz77 rfl hv rfl (by omega) (by omega)) ?_
      refine x_next ⟨.inr (by kernel_rfl), ?_⟩
      refine x_one (i := 17) (by kernel_rfl) rfl ?_
      refine s_storeElV hv cx rfl rfl rfl rfl rfl sz77 (Rw.set hRs1 _ hrz) (by simpa using hlen) (by simpa using hiz) hry ?_; intro w cx
      rw [sw_mid' _ [] _ z y hi' hj'] at cx
      refine x_next ⟨.inr (by kernel_rfl), ?_⟩
      refine x_done (by kernel_rfl) ?_
      refine wp_region_lit ?_
      refine s_val rfl rfl (v_move rfl hs17) ?_
      refine s_val rfl rfl (v_sub rfl rfl rfl (by omega) (by omega)) ?_
      refine s_val rfl rfl (v_assign rfl rfl) ?_
      refine wpList_nil ?_
      refine ⟨t - 1 - i, _, by omega, rfl, t - 1, rfl, hs0, hs1, hs2, hs3, hs4, hs14, by show Value.int .i64 _ = _; congr 1; omega, by omega, by omega, ?_⟩
      rw [hst']
      exact cx
    try simp only [bsl] at hc110
    refine wp_exit ?_
    refine wp_ret ?_
    refine ret_no (.inl rfl) Try.results150 ?_
    obtain rfl : t = i := by omega
    exact ⟨_, hpt t, ins_at hX hjX (fun h => Lt.of_not (fun e => hdxy _ (by omega) e.symm) (h1 h)) (fun h => h2 h), cx⟩
  try simp only [bsl] at hc80
  have hX2 : 2 ≤ X.length := by omega
  have hY2 : 2 ≤ Y.length := by omega
  obtain ⟨mo, hmo⟩ : ∃ mo : Nat, mo = (X.length + Y.length) / 2 := ⟨_, rfl⟩
  have hmid : ((a + b) / 2 : Int) = a + mo := by omega
  refine wp_skip ?_
  refine wp_seq ?_
  refine wp_region_lit ?_
  refine s_val rfl rfl (v_move rfl rfl) ?_
  refine s_val rfl rfl (v_move rfl rfl) ?_
  refine s_val rfl rfl (v_add rfl rfl rfl (by omega) (by omega)) ?_
  refine s_val rfl rfl (v_convQ rfl rfl Try.underlying3 Try.underlying170 (IntWalk.u64_in _ (by omega))) ?_
  refine s_val rfl rfl (v_shr1 rfl rfl rfl) ?_
  refine s_val rfl rfl (v_convQ rfl rfl Try.underlying170 Try.underlying3 (m' := a + mo) (by rw [IntWalk.i64_in _ (by omega)]; omega)) ?_
  refine s_val rfl rfl (v_assign rfl rfl) ?_
  refine wpList_nil ?_
  refine wp_seq ?_
  refine wp_region_lit ?_
  refine s_val rfl rfl (v_move rfl rfl) ?_
  refine s_val rfl rfl (v_move rfl rfl) ?_
  refine s_val rfl rfl (v_add rfl rfl rfl (by omega) (by omega)) ?_
  refine s_val rfl rfl (v_assign rfl rfl) ?_
  refine wpList_nil ?_
  refine wp_seq ?_
  refine wp_region_lit ?_
  refine s_val rfl rfl (v_assign rfl rfl) ?_
  refine s_val rfl rfl (v_assign rfl rfl) ?_
  refine wpList_nil ?_
  refine w_cut (fun f w1 => ∃ so ro : Nat, f 0 = v ∧ f 1 = .int .i64 a ∧ f 2 = .int .i64 m ∧ f 3 = .int .i64 b ∧ f 4 = FV ∧ f 18 = .int .i64 (a + mo) ∧ f 19 = .int .i64 (a + mo + m) ∧ f 20 = .int .i64 (a + so) ∧ f 21 = .int .i64 (a + ro) ∧ so ≤ ro ∧ ro ≤ X.length ∧ ro ≤ mo ∧ mo ≤ so + Y.length ∧ (so = 0 ∨ mo = so + Y.length) ∧ (ro = X.length ∨ ro = mo) ∧ Cxr wb w1 L (⟨77, 14, v, n, (A ++ (X ++ Y) ++ B).flatten⟩ :: R)) ?_ ?_
  · skip
    refine wp_seq ?_
    refine wp_region_lit ?_
    refine s_val rfl rfl (v_move rfl rfl) ?_
    refine s_val rfl rfl (v_move rfl rfl) ?_
    refine s_val rfl rfl (v_cmp rfl rfl rfl rfl) ?_
    refine wpList_nil ?_
    refine c_split rfl (fun hc140 => ?_) (fun hc140 => ?_)
    · skip
      try simp only [bsl] at hc140
      refine wp_seq ?_
      refine wp_region_lit ?_
      refine s_val rfl rfl (v_move rfl rfl) ?_
      refine s_val rfl rfl (v_move rfl rfl) ?_
      refine s_val rfl rfl (v_sub rfl rfl rfl (by omega) (by omega)) ?_
      refine s_val rfl rfl (v_assign rfl rfl) ?_
      refine wpList_nil ?_
      refine wp_region_lit ?_
      refine s_val rfl rfl (v_move rfl rfl) ?_
      refine s_val rfl rfl (v_assign rfl rfl) ?_
      refine wpList_nil ?_
      first
      | exact ⟨_, rfl, mo - Y.length, mo, rfl, rfl, rfl, rfl, rfl, rfl, rfl, by show Value.int .i64 _ = _; congr 1; omega, rfl, by omega, by omega, by omega, by omega, by omega, by omega, cx⟩
      | exact ⟨_, rfl, 0, X.length, rfl, rfl, rfl, rfl, rfl, rfl, rfl, by show Value.int .i64 _ = _; congr 1; omega, by show Value.int .i64 _ = _; congr 1; omega, by omega, by omega, by omega, by omega, by omega, by omega, cx⟩
    try simp only [bsl] at hc140
    refine wp_seq ?_
    refine wp_region_lit ?_
    refine s_val rfl rfl (v_move rfl rfl) ?_
    refine s_val rfl rfl (v_assign rfl rfl) ?_
    refine wpList_nil ?_
    refine wp_region_lit ?_
    refine s_val rfl rfl (v_move rfl rfl) ?_
    refine s_val rfl rfl (v_assign rfl rfl) ?_
    refine wpList_nil ?_
    first
    | exact ⟨_, rfl, mo - Y.length, mo, rfl, rfl, rfl, rfl, rfl, rfl, rfl, by show Value.int .i64 _ = _; congr 1; omega, rfl, by omega, by omega, by omega, by omega, by omega, by omega, cx⟩
    | exact ⟨_, rfl, 0, X.length, rfl, rfl, rfl, rfl, rfl, rfl, rfl, by show Value.int .i64 _ = _; congr 1; omega, by show Value.int .i64 _ = _; congr 1; omega, by omega, by omega, by omega, by omega, by omega, by omega, cx⟩
  intro f w hJ
  obtain ⟨so, ro, hs0, hs1, hs2, hs3, hs4, hs18, hs19, hs20, hs21, hsr, hroX, hrom, hmoY, hso, hro, cx⟩ := hJ
  refine wp_seq ?_
  refine wp_region_lit ?_
  refine s_val rfl rfl (v_move rfl hs19) ?_
  refine s_val rfl rfl (v_sub rfl rfl rfl (by omega) (by omega)) ?_
  refine s_val rfl rfl (v_assign rfl rfl) ?_
  refine wpList_nil ?_
  refine wp_seq ?_
  refine wp_block ?_
  refine w_loop (fun k f w1 => ∃ s r : Nat, k = r - s ∧ f 0 = v ∧ f 1 = .int .i64 a ∧ f 2 = .int .i64 m ∧ f 3 = .int .i64 b ∧ f 4 = FV ∧ f 18 = .int .i64 (a + mo) ∧ f 19 = .int .i64 (a + mo + m) ∧ f 20 = .int .i64 (a + s) ∧ f 21 = .int .i64 (a + r) ∧ f 22 = .int .i64 (a + mo + m - 1) ∧ so ≤ s ∧ s ≤ r ∧ r ≤ ro ∧ (so < s → ¬ Lt (Y.getD (mo - s) []) (X.getD (s - 1) [])) ∧ (r < ro → Lt (Y.getD (mo - 1 - r) []) (X.getD r [])) ∧ Cxr wb w1 L (⟨77, 14, v, n, (A ++ (X ++ Y) ++ B).flatten⟩ :: R)) (ro - so) ?_ ?_
  · skip
    exact ⟨so, ro, rfl, hs0, hs1, hs2, hs3, hs4, hs18, hs19, hs20, hs21, rfl, by omega, by omega, by omega, fun h => by omega, fun h => by omega, cx⟩
  intro gk33 f w hJ
  obtain ⟨s, r, hk, hs0, hs1, hs2, hs3, hs4, hs18, hs19, hs20, hs21, hs22, hsos, hsr', hrro, h1, h2, cx⟩ := hJ
  refine wp_seq ?_
  refine wp_seq ?_
  refine wp_region_lit ?_
  refine s_val rfl rfl (v_move rfl hs20) ?_
  refine s_val rfl rfl (v_move rfl hs21) ?_
  refine s_val rfl rfl (v_cmp rfl rfl rfl rfl) ?_
  refine wpList_nil ?_
  refine c_split rfl (fun hc151 => ?_) (fun hc151 => ?_)
  · skip
    try simp only [bsl] at hc151
    obtain ⟨c, hcd⟩ : ∃ c : Nat, c = (s + r) / 2 := ⟨_, rfl⟩
    have hc : c < r ∧ s ≤ c := by omega
    have hgx := atX (A := A) (X := X) (Y := Y) (B := B) (q := a + (c : Nat)) (j := c) (by omega) (by omega)
    have hrx : Rw (X.getD c []) := hRs _ (by simp only [List.mem_append]; exact .inl (.inr (.inl (getD_mem (by omega)))))
    have hgy := atY (A := A) (X := X) (Y := Y) (B := B) (q := a + mo + m - 1 - (a + (c : Nat))) (j := mo - 1 - c) (by omega) (by omega)
    have hry : Rw (Y.getD (mo - 1 - c) []) := hRs _ (by simp only [List.mem_append]; exact .inl (.inr (.inr (getD_mem (by omega)))))
    refine wp_skip ?_
    refine wp_block ?_
    refine wp_seq ?_
    refine wp_region_lit ?_
    refine s_val rfl rfl (v_move rfl hs20) ?_
    refine s_val rfl rfl (v_move rfl hs21) ?_
    refine s_val rfl rfl (v_add rfl rfl rfl (by omega) (by omega)) ?_
    refine s_val rfl rfl (v_convQ rfl rfl Try.underlying3 Try.underlying170 (IntWalk.u64_in _ (by omega))) ?_
    refine s_val rfl rfl (v_shr1 rfl rfl rfl) ?_
    refine s_val rfl rfl (v_convQ rfl rfl Try.underlying170 Try.underlying3 (m' := a + (c : Nat)) (by rw [IntWalk.i64_in _ (by omega)]; omega)) ?_
    refine s_val rfl rfl (v_assign rfl rfl) ?_
    refine wpList_nil ?_
    refine wp_seq ?_
    refine w_quiet cx mixed (by kernel_rfl) ?_
    refine q_val rfl rfl (fun w cx hwQ => v_move rfl hs4) ?_
    refine q_val rfl rfl (fun w cx hwQ => v_move rfl hs0) ?_
    refine q_val rfl rfl (fun w cx hwQ => v_move rfl hs22) ?_
    refine q_val rfl rfl (fun w cx hwQ => v_move rfl rfl) ?_
    refine q_val rfl rfl (fun w cx hwQ => v_sub rfl rfl rfl (by omega) (by omega)) ?_
    refine q_val rfl rfl (fun w cx hwQ => v_ia Try.underlying31 sz77 rfl hv rfl (by omega) (by omega)) ?_
    refine q_val rfl rfl (fun w cx hwQ => v_load rfl rfl Try.underlying77 rfl sz77 (cx.elV hv hRs hn hgy) hry.len) ?_
    refine q_val rfl rfl (fun w cx hwQ => v_move rfl hs0) ?_
    refine q_val rfl rfl (fun w cx hwQ => v_move rfl rfl) ?_
    refine q_val rfl rfl (fun w cx hwQ => v_ia Try.underlying31 sz77 rfl hv rfl (by omega) (by omega)) ?_
    refine q_val rfl rfl (fun w cx hwQ => v_load rfl rfl Try.underlying77 rfl sz77 (cx.elV hv hRs hn hgx) hrx.len) ?_
    refine q_call rfl rfl (runs_fnv0 Try.func139 rfl rfl rfl rfl rfl) (fun w cx hwQ => c139 _ _ _ hry hrx) ?_
    refine q_val rfl rfl (fun w cx hwQ => v_cmp rfl rfl rfl rfl) ?_
    refine q_val rfl rfl (fun w cx hwQ => v_not rfl rfl) ?_
    refine q_nil ?_; rintro w ⟨cx, hwQ35⟩
    refine c_split rfl (fun hc171 => ?_) (fun hc171 => ?_)
    · skip
      try simp only [bsl] at hc171
      refine wp_region_lit ?_
      refine s_val rfl rfl (v_move rfl rfl) ?_
      refine s_val rfl rfl (v_add rfl rfl rfl (by omega) (by omega)) ?_
      refine s_val rfl rfl (v_assign rfl rfl) ?_
      refine wpList_nil ?_
      refine ⟨r - (c + 1), _, by omega, rfl, c + 1, r, rfl, hs0, hs1, hs2, hs3, hs4, hs18, hs19, by show Value.int .i64 _ = _; congr 1; omega, hs21, hs22, by omega, by omega, by omega, fun _ => ?_, h2, cx⟩
      rw [Nat.add_sub_cancel, show mo - (c + 1) = mo - 1 - c by omega]
      exact hc171
    try simp only [bsl] at hc171
    refine wp_region_lit ?_
    refine s_val rfl rfl (v_move rfl rfl) ?_
    refine s_val rfl rfl (v_assign rfl rfl) ?_
    refine wpList_nil ?_
    exact ⟨c - s, _, by omega, rfl, s, c, rfl, hs0, hs1, hs2, hs3, hs4, hs18, hs19, hs20, rfl, hs22, by omega, by omega, by omega, h1, fun _ => by unfold Lt; omega, cx⟩
  try simp only [bsl] at hc151
  obtain rfl : s = r := by omega
  obtain ⟨e, he⟩ : ∃ e : Nat, e = mo - s := ⟨_, rfl⟩
  have hsX : s ≤ X.length := by omega
  have heY : e ≤ Y.length := by omega
  have hc1 : 0 < s → e < Y.length → Lt (X.getD (s - 1) []) (Y.getD e []) := fun h0 h3 => by
    have := h1 (by omega)
    rw [← he] at this
    exact Lt.of_not (fun e' => hd.xy (by omega) h3 e'.symm) this
  have hc2 : 0 < e → s < X.length → Lt (Y.getD (e - 1) []) (X.getD s []) := fun h0 h3 => by
    have := h2 (by omega)
    rwa [show mo - 1 - s = e - 1 by omega] at this
  have hend : a + mo + m - (a + (s : Nat)) = m + e := by omega
  refine wp_exit ?_
  refine wp_seq ?_
  refine wp_region_lit ?_
  refine s_val rfl rfl (v_move rfl hs19) ?_
  refine s_val rfl rfl (v_move rfl hs20) ?_
  refine s_val rfl rfl (v_sub rfl rfl rfl (by omega) (by omega)) ?_
  refine s_val rfl rfl (v_assign rfl rfl) ?_
  refine wpList_nil ?_
  refine w_cut (fun f w1 => f 0 = v ∧ f 1 = .int .i64 a ∧ f 2 = .int .i64 m ∧ f 3 = .int .i64 b ∧ f 4 = FV ∧ f 18 = .int .i64 (a + mo) ∧ f 20 = .int .i64 (a + s) ∧ f 24 = .int .i64 (m + e) ∧ Cxr wb w1 L (⟨77, 14, v, n, (A ++ ((X.take s ++ Y.take e) ++ (X.drop s ++ Y.drop e)) ++ B).flatten⟩ :: R)) ?_ ?_
  · skip
    refine wp_seq ?_
    refine wp_region_lit ?_
    refine s_val rfl rfl (v_move rfl hs20) ?_
    refine s_val rfl rfl (v_move rfl hs2) ?_
    refine s_val rfl rfl (v_cmp rfl rfl rfl rfl) ?_
    refine s_val rfl rfl (v_move rfl rfl) ?_
    refine s_gval rfl rfl rfl wT (fun hc => v_move rfl hs2) ?_
    refine s_gval rfl rfl rfl wT (fun hc => v_move rfl (by first | exact gve hc rfl | exact gve (and_l hc) rfl | exact gve (and_l (and_l hc)) rfl | rfl)) ?_
    refine s_gval rfl rfl rfl wT (fun hc => v_cmp rfl (by first | exact gve hc rfl | exact gve (and_l hc) rfl | exact gve (and_l (and_l hc)) rfl | rfl) (by first | exact gve hc rfl | exact gve (and_l hc) rfl | exact gve (and_l (and_l hc)) rfl | rfl) rfl) ?_
    refine s_val rfl rfl (v_and rfl rfl rfl rfl) ?_
    refine wpList_nil ?_
    refine c_split rfl (fun hc185 => ?_) (fun hc185 => ?_)
    · skip
      try simp only [bsl] at hc185
      refine wp_region_lit ?_
      refine s_val rfl rfl (v_move rfl hs0) ?_
      refine s_val rfl rfl (v_move rfl hs20) ?_
      refine s_val rfl rfl (v_move rfl hs2) ?_
      refine s_val rfl rfl (v_move rfl rfl) ?_
      refine s_val rfl rfl (v_move rfl hs4) ?_
      have er : A ++ (X ++ Y) ++ B = (A ++ X.take s) ++ X.drop s ++ Y.take e ++ (Y.drop e ++ B) := split_XY A X Y B s e
      rw [er] at cx
      refine s_callR rfl rfl (runs_fn Try.func153 rfl rfl rfl rfl) (c153 wb L R v FV n (A ++ X.take s) (X.drop s) (Y.take e) (Y.drop e ++ B) _ _ _ _ cx (by rw [← er]; exact hRs) (by rw [← er]; exact hn) hn1 (by rw [List.length_drop]; omega) (by rw [List.length_take]; omega) (by rw [List.length_append, List.length_take]; omega) (by rw [List.length_append, List.length_take, List.length_drop]; omega) (by simp only [List.length_append, List.length_take, List.length_drop]; omega)) ?_; intro q191 w cx
      refine wpList_nil ?_
      first
      | exact ⟨_, rfl, hs0, hs1, hs2, hs3, hs4, hs18, hs20, by show Value.int .i64 _ = _; rw [hend], by simpa [List.append_assoc] using cx⟩
      | (have e1 : A ++ (X ++ Y) ++ B = A ++ ((X.take s ++ Y.take e) ++ (X.drop s ++ Y.drop e)) ++ B := by
           rcases hc185 with h | h
           · have : s = X.length := by omega
             subst this
             simp [List.append_assoc]
           · have : e = 0 := by omega
             rw [split_XY A X Y B s e, this]; simp only [List.append_assoc, List.take_zero, List.drop_zero, List.nil_append]
         rw [e1] at cx
         exact ⟨_, rfl, hs0, hs1, hs2, hs3, hs4, hs18, hs20, by show Value.int .i64 _ = _; rw [hend], cx⟩)
    try simp only [bsl] at hc185
    refine wp_skip ?_
    first
    | exact ⟨_, rfl, hs0, hs1, hs2, hs3, hs4, hs18, hs20, by show Value.int .i64 _ = _; rw [hend], by simpa [List.append_assoc] using cx⟩
    | (have e1 : A ++ (X ++ Y) ++ B = A ++ ((X.take s ++ Y.take e) ++ (X.drop s ++ Y.drop e)) ++ B := by
         rcases hc185 with h | h
         · have : s = X.length := by omega
           subst this
           simp [List.append_assoc]
         · have : e = 0 := by omega
           rw [split_XY A X Y B s e, this]; simp only [List.append_assoc, List.take_zero, List.drop_zero, List.nil_append]
       rw [e1] at cx
       exact ⟨_, rfl, hs0, hs1, hs2, hs3, hs4, hs18, hs20, by show Value.int .i64 _ = _; rw [hend], cx⟩)
  intro f w hJ
  obtain ⟨hs0, hs1, hs2, hs3, hs4, hs18, hs20, hs24, cx⟩ := hJ
  refine w_cut (fun f w1 => ∃ Z1 : Els, f 0 = v ∧ f 1 = .int .i64 a ∧ f 2 = .int .i64 m ∧ f 3 = .int .i64 b ∧ f 4 = FV ∧ f 18 = .int .i64 (a + mo) ∧ f 20 = .int .i64 (a + s) ∧ f 24 = .int .i64 (m + e) ∧ Z1.Perm (X.take s ++ Y.take e) ∧ Z1.Pairwise Lt ∧ Cxr wb w1 L (⟨77, 14, v, n, (A ++ (Z1 ++ (X.drop s ++ Y.drop e)) ++ B).flatten⟩ :: R)) ?_ ?_
  · skip
    refine wp_seq ?_
    refine wp_region_lit ?_
    refine s_val rfl rfl (v_move rfl hs1) ?_
    refine s_val rfl rfl (v_move rfl hs20) ?_
    refine s_val rfl rfl (v_cmp rfl rfl rfl rfl) ?_
    refine s_val rfl rfl (v_move rfl rfl) ?_
    refine s_gval rfl rfl rfl wT (fun hc => v_move rfl hs20) ?_
    refine s_gval rfl rfl rfl wT (fun hc => v_move rfl hs18) ?_
    refine s_gval rfl rfl rfl wT (fun hc => v_cmp rfl (by first | exact gve hc rfl | exact gve (and_l hc) rfl | exact gve (and_l (and_l hc)) rfl | rfl) (by first | exact gve hc rfl | exact gve (and_l hc) rfl | exact gve (and_l (and_l hc)) rfl | rfl) rfl) ?_
    refine s_val rfl rfl (v_and rfl rfl rfl rfl) ?_
    refine wpList_nil ?_
    refine c_split rfl (fun hc199 => ?_) (fun hc199 => ?_)
    · skip
      try simp only [bsl] at hc199
      refine wp_region_lit ?_
      have hpm : ((X.take s ++ Y.take e) ++ (X.drop s ++ Y.drop e)).Perm (X ++ Y) := by
        have := perm4 (X.take s) (X.drop s) (Y.take e) (Y.drop e)
        rwa [List.take_append_drop, List.take_append_drop] at this
      have hlm : (A ++ ((X.take s ++ Y.take e) ++ (X.drop s ++ Y.drop e)) ++ B).length = n := by rw [← hn, List.length_append, List.length_append, hpm.length_eq]; simp; omega
      refine s_val rfl rfl (v_move rfl hs0) ?_
      refine s_val rfl rfl (v_move rfl hs1) ?_
      refine s_val rfl rfl (v_move rfl hs20) ?_
      refine s_val rfl rfl (v_move rfl hs18) ?_
      refine s_val rfl rfl (v_move rfl hs4) ?_
      have er : A ++ ((X.take s ++ Y.take e) ++ (X.drop s ++ Y.drop e)) ++ B = A ++ (X.take s ++ Y.take e) ++ ((X.drop s ++ Y.drop e) ++ B) := by simp [List.append_assoc]
      rw [er] at cx
      refine s_callR rfl rfl (runs_fn Try.func150 rfl rfl rfl rfl) (ih wb L R v n A (X.take s) (Y.take e) ((X.drop s ++ Y.drop e) ++ B) _ _ _ _ (by simp only [List.length_take]; omega) cx (by rw [← er]; exact Rw.mid hRs hpm) (by rw [← er]; exact hlm) hn1 (hd.sub ((List.take_sublist _ _).append (List.take_sublist _ _))) (List.Pairwise.sublist (List.take_sublist _ _) hX) (List.Pairwise.sublist (List.take_sublist _ _) hY) (by rw [List.length_take]; omega) (by rw [List.length_take]; omega) ha (by rw [List.length_take]; omega) (by rw [List.length_take, List.length_take]; omega)) ?_; intro q205 w hp205
      refine wpList_nil ?_
      first
      | (obtain ⟨Z1, hZ1, hsZ1, cx⟩ := hp205
         exact ⟨_, rfl, Z1, hs0, hs1, hs2, hs3, hs4, hs18, hs20, hs24, hZ1, hsZ1, by simpa [List.append_assoc] using cx⟩)
      | (refine ⟨_, rfl, X.take s ++ Y.take e, hs0, hs1, hs2, hs3, hs4, hs18, hs20, hs24, List.Perm.refl _, ?_, cx⟩
         by_cases h : s = 0
         · subst h
           simpa using List.Pairwise.sublist (List.take_sublist _ _) hY
         · have h0 : e = 0 := by omega
           rw [h0]
           simpa using List.Pairwise.sublist (List.take_sublist _ _) hX)
    try simp only [bsl] at hc199
    refine wp_skip ?_
    first
    | (obtain ⟨Z1, hZ1, hsZ1, cx⟩ := hp205
       exact ⟨_, rfl, Z1, hs0, hs1, hs2, hs3, hs4, hs18, hs20, hs24, hZ1, hsZ1, by simpa [List.append_assoc] using cx⟩)
    | (refine ⟨_, rfl, X.take s ++ Y.take e, hs0, hs1, hs2, hs3, hs4, hs18, hs20, hs24, List.Perm.refl _, ?_, cx⟩
       by_cases h : s = 0
       · subst h
         simpa using List.Pairwise.sublist (List.take_sublist _ _) hY
       · have h0 : e = 0 := by omega
         rw [h0]
         simpa using List.Pairwise.sublist (List.take_sublist _ _) hX)
  intro f w hJ
  obtain ⟨Z1, hs0, hs1, hs2, hs3, hs4, hs18, hs20, hs24, hZ1, hsZ1, cx⟩ := hJ
  refine wp_seq ?_
  refine wp_region_lit ?_
  refine s_val rfl rfl (v_move rfl hs18) ?_
  refine s_val rfl rfl (v_move rfl hs24) ?_
  refine s_val rfl rfl (v_cmp rfl rfl rfl rfl) ?_
  refine s_val rfl rfl (v_move rfl rfl) ?_
  refine s_gval rfl rfl rfl wT (fun hc => v_move rfl hs24) ?_
  refine s_gval rfl rfl rfl wT (fun hc => v_move rfl hs3) ?_
  refine s_gval rfl rfl rfl wT (fun hc => v_cmp rfl (by first | exact gve hc rfl | exact gve (and_l hc) rfl | exact gve (and_l (and_l hc)) rfl | rfl) (by first | exact gve hc rfl | exact gve (and_l hc) rfl | exact gve (and_l (and_l hc)) rfl | rfl) rfl) ?_
  refine s_val rfl rfl (v_and rfl rfl rfl rfl) ?_
  refine wpList_nil ?_
  refine c_split rfl (fun hc213 => ?_) (fun hc213 => ?_)
  · skip
    try simp only [bsl] at hc213
    refine wp_region_lit ?_
    have hpm : ((X.take s ++ Y.take e) ++ (X.drop s ++ Y.drop e)).Perm (X ++ Y) := by
      have := perm4 (X.take s) (X.drop s) (Y.take e) (Y.drop e)
      rwa [List.take_append_drop, List.take_append_drop] at this
    have hlm : (A ++ ((X.take s ++ Y.take e) ++ (X.drop s ++ Y.drop e)) ++ B).length = n := by rw [← hn, List.length_append, List.length_append, hpm.length_eq]; simp; omega
    refine s_val rfl rfl (v_move rfl hs0) ?_
    refine s_val rfl rfl (v_move rfl hs18) ?_
    refine s_val rfl rfl (v_move rfl hs24) ?_
    refine s_val rfl rfl (v_move rfl hs3) ?_
    refine s_val rfl rfl (v_move rfl hs4) ?_
    have er : A ++ (Z1 ++ (X.drop s ++ Y.drop e)) ++ B = (A ++ Z1) ++ (X.drop s ++ Y.drop e) ++ B := by simp [List.append_assoc]
    rw [er] at cx
    have hlZ := hZ1.length_eq
    simp only [List.length_append, List.length_take] at hlZ
    refine s_callR rfl rfl (runs_fn Try.func150 rfl rfl rfl rfl) (ih wb L R v n (A ++ Z1) (X.drop s) (Y.drop e) B _ _ _ _ (by simp only [List.length_drop]; omega) cx (by rw [← er]; exact Rw.mid hRs ((List.Perm.append_right _ hZ1).trans hpm)) (by rw [← er, ← hlm]; simp only [List.length_append, List.length_take]; omega) hn1 (hd.sub ((List.drop_sublist _ _).append (List.drop_sublist _ _))) (List.Pairwise.sublist (List.drop_sublist _ _) hX) (List.Pairwise.sublist (List.drop_sublist _ _) hY) (by rw [List.length_drop]; omega) (by rw [List.length_drop]; omega) (by rw [List.length_append]; omega) (by rw [List.length_append, List.length_drop]; omega) (by simp only [List.length_append, List.length_drop]; omega)) ?_; intro q219 w hp219
    refine wpList_nil ?_
    refine ret_no (.inr rfl) Try.results150 ?_
    obtain ⟨Z2, hZ2, hsZ2, cx⟩ := hp219
    have hm2 := merge2G hX hY hsX heY hc1 hc2 hZ1 hZ2 hsZ1 hsZ2
    exact ⟨Z1 ++ Z2, hm2.2, hm2.1, by simpa [List.append_assoc] using cx⟩
  try simp only [bsl] at hc213
  refine wp_skip ?_
  refine ret_no (.inr rfl) Try.results150 ?_
  have hsZ2 : (X.drop s ++ Y.drop e).Pairwise Lt := by
    by_cases h : s = X.length
    · rw [List.drop_eq_nil_of_le (by omega), List.nil_append]; exact List.Pairwise.sublist (List.drop_sublist _ _) hY
    · have he : e = Y.length := by omega
      rw [show Y.drop e = [] from List.drop_eq_nil_of_le (by omega), List.append_nil]; exact List.Pairwise.sublist (List.drop_sublist _ _) hX
  have hm2 := merge2G hX hY hsX heY hc1 hc2 hZ1 (List.Perm.refl _) hsZ1 hsZ2
  exact ⟨Z1 ++ (X.drop s ++ Y.drop e), hm2.2, hm2.1, by simpa [List.append_assoc] using cx⟩
end Go.Proofs.Ytmkihcdcgkdilaa
end
section
set_option linter.unusedVariables false
set_option linter.unusedSimpArgs false
namespace Go.Dk
open Go Go.RowKit
abbrev Fs := List (ByteArray × V)
def kc (a b : ByteArray) : Int := cmpL a.data.toList b.data.toList
theorem ba_list {a b : ByteArray} (h : a.data.toList = b.data.toList) : a = b := by
  cases a; cases b; simp only [ByteArray.mk.injEq]; simp only at h; exact Array.toList_inj.1 h
theorem kc_zero {a b : ByteArray} (h : kc a b = 0) : a = b := ba_list (cmpL_zero _ _ h)
def kLt (x y : ByteArray × V) : Prop := kc x.1 y.1 < 0
theorem kLt.trans {x y z : ByteArray × V} (h : kLt x y) (h' : kLt y z) : kLt x z := cmpL_trans _ _ _ h h'
def insF (kv : ByteArray × V) : Fs → Fs
  | [] => [kv]
  | x :: r => if kc x.1 kv.1 ≤ 0 then x :: insF kv r else kv :: x :: r
def sortF (l : Fs) : Fs := l.foldl (fun o kv => insF kv o) []
theorem insF_perm (kv : ByteArray × V) : ∀ l : Fs, (insF kv l).Perm (kv :: l)
  | [] => List.Perm.refl _
  | x :: r => by
    unfold insF
    split
    · exact ((insF_perm kv r).cons x).trans (List.Perm.swap ..)
    · exact List.Perm.refl _
theorem fold_perm : ∀ (l o : Fs), (l.foldl (fun o kv => insF kv o) o).Perm (o ++ l)
  | [], o => by simp
  | kv :: l, o => by
    simp only [List.foldl_cons]
    refine (fold_perm l _).trans ?_
    refine ((insF_perm kv o).append_right l).trans ?_
    simpa using (List.perm_middle (a := kv) (l₁ := o) (l₂ := l)).symm
theorem sortF_perm (l : Fs) : (sortF l).Perm l := by have := fold_perm l []; rwa [List.nil_append] at this
theorem sortF_length (l : Fs) : (sortF l).length = l.length := (sortF_perm l).length_eq
theorem sortF_mem {l : Fs} {x : ByteArray × V} : x ∈ sortF l ↔ x ∈ l := (sortF_perm l).mem_iff
theorem insF_sorted {kv : ByteArray × V} : ∀ {l : Fs}, l.Pairwise kLt → (∀ x ∈ l, x.1 ≠ kv.1) → (insF kv l).Pairwise kLt
  | [], _, _ => List.pairwise_singleton _ _
  | x :: r, h, hn => by
    have hx := List.pairwise_cons.1 h
    have hne := hn x (by simp)
    unfold insF
    split
    · rename_i hle
      refine List.pairwise_cons.2 ⟨fun y hy => ?_, insF_sorted hx.2 fun y hy => hn y (List.mem_cons_of_mem _ hy)⟩
      rcases List.mem_cons.1 ((insF_perm kv r).mem_iff.1 hy) with rfl | hy
      · unfold kLt
        have : kc x.1 y.1 ≠ 0 := fun e => hne (kc_zero e)
        omega
      · exact hx.1 y hy
    · rename_i hle
      have hlt : kLt kv x := by
        unfold kLt kc at *
        rw [cmpL_swap]; omega
      refine List.pairwise_cons.2 ⟨fun y hy => ?_, h⟩
      rcases List.mem_cons.1 hy with rfl | hy
      · exact hlt
      · exact hlt.trans (hx.1 y hy)
theorem keys_ne {l : Fs} (h : (keysOf l).Nodup) : l.Pairwise fun x y => x.1 ≠ y.1 := by
  unfold keysOf at h
  exact List.pairwise_map.1 h
theorem fold_sorted : ∀ (l o : Fs), o.Pairwise kLt → (o ++ l).Pairwise (fun x y => x.1 ≠ y.1) → (l.foldl (fun o kv => insF kv o) o).Pairwise kLt
  | [], o, h, _ => h
  | kv :: l, o, h, hn => by
    simp only [List.foldl_cons]
    refine fold_sorted l _ (insF_sorted h fun x hx => (List.pairwise_append.1 hn).2.2 x hx kv (by simp)) ?_
    refine (List.Perm.pairwise_iff (fun h => Ne.symm h) ?_).1 hn
    refine List.Perm.trans ?_ ((insF_perm kv o).append_right l).symm
    simp
theorem sortF_sorted {l : Fs} (h : (keysOf l).Nodup) : (sortF l).Pairwise kLt := fold_sorted l [] List.Pairwise.nil (by simpa using keys_ne h)
theorem sortF_eq {l l' : Fs} (h : (keysOf l).Nodup) (hp : l'.Perm l) (hs : l'.Pairwise kLt) : l' = sortF l := by
  refine List.Perm.eq_of_pairwise (le := kLt) (fun a b _ _ h1 h2 => ?_) hs (sortF_sorted h) (hp.trans (sortF_perm l).symm)
  exfalso
  unfold kLt kc at h1 h2
  rw [cmpL_swap] at h2
  omega
theorem insF_map (g : V → V) (kv : ByteArray × V) : ∀ l : Fs, insF (kv.1, g kv.2) (l.map fun x => (x.1, g x.2)) = (insF kv l).map fun x => (x.1, g x.2)
  | [] => rfl
  | x :: r => by
    simp only [List.map_cons, insF]
    split
    · simp [insF_map g kv r]
    · simp
theorem sortF_map (g : V → V) (l : Fs) : sortF (l.map fun x => (x.1, g x.2)) = (sortF l).map fun x => (x.1, g x.2) := by
  unfold sortF
  have : ∀ (l o : Fs), (l.map fun x => (x.1, g x.2)).foldl (fun o kv => insF kv o) (o.map fun x => (x.1, g x.2)) = (l.foldl (fun o kv => insF kv o) o).map fun x => (x.1, g x.2) := by
    intro l
    induction l with
    | nil => intro o; rfl
    | cons kv l ih =>
      intro o
      simp only [List.map_cons, List.foldl_cons]
      rw [← ih, ← insF_map]
  exact this l []
/-! ### rows of fields -/
theorem RowsF.rw {A : Nat → Prop} {w : World} : ∀ (fs : Fs) (rs : Els), RowsF A w fs rs → ∀ r ∈ rs, Rw r
  | [], [], _, r, h => by cases h
  | _ :: fs, _ :: rs, ⟨⟨l, e, hv⟩, hr⟩, r, h => by
    rcases List.mem_cons.1 h with rfl | h
    · exact ⟨_, l, e, hv.len, hv.one⟩
    · exact RowsF.rw fs rs hr r h
  | [], _ :: _, h, _, _ => h.elim
  | _ :: _, [], h, _, _ => h.elim
theorem RowsF.keys {A : Nat → Prop} {w : World} : ∀ (fs : Fs) (rs : Els), RowsF A w fs rs → rs.map rk = fs.map fun kv => kv.1.data.toList
  | [], [], _ => rfl
  | _ :: fs, _ :: rs, ⟨⟨l, e, hv⟩, hr⟩ => by
    subst e
    simp [rk, RowsF.keys fs rs hr]
  | [], _ :: _, h => h.elim
  | _ :: _, [], h => h.elim
theorem RowsF.df {A : Nat → Prop} {w : World} {fs : Fs} {rs : Els} (h : RowsF A w fs rs) (hn : (keysOf fs).Nodup) : Df rs := by
  have h1 : (rs.map rk).Pairwise (· ≠ ·) := by
    rw [RowsF.keys fs rs h, List.pairwise_map]
    exact (keys_ne hn).imp fun hne e => hne (ba_list e)
  exact List.pairwise_map.1 h1
theorem RowsF.sorted {A : Nat → Prop} {w : World} {fs : Fs} {rs : Els} (h : RowsF A w fs rs) (hs : rs.Pairwise Lt) : fs.Pairwise kLt := by
  have h1 : (rs.map rk).Pairwise (fun a b => cmpL a b < 0) := List.pairwise_map.2 hs
  rw [RowsF.keys fs rs h, List.pairwise_map] at h1
  exact h1
theorem RowsF.permute {A : Nat → Prop} {w : World} {rs rs' : Els} (hp : rs.Perm rs') : ∀ fs : Fs, RowsF A w fs rs → ∃ fs' : Fs, fs'.Perm fs ∧ RowsF A w fs' rs' := by
  induction hp with
  | nil => intro fs h; exact ⟨fs, List.Perm.refl _, h⟩
  | cons x _ ih =>
    intro fs h
    cases fs with
    | nil => exact h.elim
    | cons kv fs =>
      obtain ⟨fs', h1, h2⟩ := ih fs h.2
      exact ⟨kv :: fs', h1.cons kv, h.1, h2⟩
  | swap x y l =>
    intro fs h
    match fs, h with
    | a :: b :: fs, h => exact ⟨b :: a :: fs, List.Perm.swap .., h.2.1, h.1, h.2.2⟩
    | [_], h => exact h.2.elim
  | trans _ _ ih1 ih2 =>
    intro fs h
    obtain ⟨f1, h1, h2⟩ := ih1 fs h
    obtain ⟨f2, h3, h4⟩ := ih2 f1 h2
    exact ⟨f2, h3.trans h1, h4⟩
theorem RowsF.sort {A : Nat → Prop} {w : World} {fs : Fs} {rs Z : Els} (h : RowsF A w fs rs) (hn : (keysOf fs).Nodup) (hp : Z.Perm rs) (hs : Z.Pairwise Lt) : RowsF A w (sortF fs) Z := by
  obtain ⟨f1, h1, h2⟩ := RowsF.permute hp.symm fs h
  rw [← sortF_eq hn h1 (h2.sorted hs)]
  exact h2
/-! ### the form in which equal values are the same -/
mutual
def canon : V → V
  | .mk s b l f => .mk s b (canonL l) (sortF (canonF f))
def canonL : List V → List V
  | [] => []
  | v :: l => canon v :: canonL l
def canonF : List (ByteArray × V) → List (ByteArray × V)
  | [] => []
  | kv :: l => canonP kv :: canonF l
def canonP : ByteArray × V → ByteArray × V
  | (k, v) => (k, canon v)
end
theorem canonL_map : ∀ l : List V, canonL l = l.map canon
  | [] => rfl
  | v :: l => by simp [canonL, canonL_map l]
theorem canonF_map : ∀ l : Fs, canonF l = l.map fun kv => (kv.1, canon kv.2)
  | [] => rfl
  | (k, v) :: l => by simp [canonF, canonP, canonF_map l]
theorem canon_eq (v : V) : canon v = .mk v.sc v.bytes (v.list.map canon) ((sortF v.fields).map fun kv => (kv.1, canon kv.2)) := by
  cases v with
  | mk s b l f =>
    simp only [canon, V.sc, V.bytes, V.list, V.fields]
    rw [canonL_map, canonF_map, sortF_map]
theorem canon_iff (v u : V) : canon v = canon u ↔ v.sc = u.sc ∧ v.bytes = u.bytes ∧ (v.list.map canon = u.list.map canon) ∧ ((sortF v.fields).map fun kv => (kv.1, canon kv.2)) = (sortF u.fields).map fun kv => (kv.1, canon kv.2) := by
  rw [canon_eq v, canon_eq u, V.mk.injEq]
end Go.Dk
end
section
namespace Go.Proofs.Ytmkihcdcgkdilaa
open Go Go.Dk Go.RowKit
set_option linter.unusedSimpArgs false
set_option linter.unusedVariables false
attribute [local irreducible] Go.wpList Go.Code.wp Go.bodyPost Go.wpStill Go.wpQuiet
theorem Rw.cut {rs A X B : Els} (h : ∀ r ∈ rs, Rw r) (hp : (A ++ X ++ B).Perm rs) : ∀ r ∈ A ++ X ++ B, Rw r := fun r hr => h r (hp.mem_iff.1 hr)
theorem df_mid {rs A X B : Els} (h : Df rs) (hp : (A ++ X ++ B).Perm rs) : Df X := (h.perm hp.symm).sub ((List.sublist_append_right A X).trans (List.sublist_append_left (A ++ X) B))
theorem perm_mid {A Z X B rs : Els} (hz : Z.Perm X) (hp : (A ++ X ++ B).Perm rs) : (A ++ Z ++ B).Perm rs := ((hz.append_left A).append_right B).trans hp
set_option maxRecDepth 10000 in
theorem c145 (wb : World) (L : List (Nat × Obj)) (R : List Row) (v : Value) (rs : Els) (n : Int) (w0 : World) (cx : Cxr wb w0 L (⟨77, 14, v, rs.length, (rs : Els).flatten⟩ :: R)) (hRs : ∀ r ∈ rs, Rw r) (hn1 : rs.length ≤ 1048576) (hd : Df rs) (hn : n = rs.length) : Ret Try.prog 145 [v, .int .i64 n, FV] w0 (fun _ w' => ∃ Z : Els, Z.Perm rs ∧ Z.Pairwise Lt ∧ Cxr wb w' L (⟨77, 14, v, rs.length, (Z : Els).flatten⟩ :: R)) := by
  refine ret_enter Try.func145 rfl Try.ntmps145 rfl ?_
  refine wp_seq ?_
  refine wp_region_lit ?_
  refine s_val rfl rfl (v_assign rfl rfl) ?_
  refine wpList_nil ?_
  refine wp_seq ?_
  refine wp_region_lit ?_
  refine s_val rfl rfl (v_move rfl rfl) ?_
  refine s_val rfl rfl (v_assign rfl rfl) ?_
  refine s_val rfl rfl (v_assign rfl rfl) ?_
  refine wpList_nil ?_
  refine wp_seq ?_
  refine wp_block ?_
  refine w_loop (fun k f w1 => ∃ D T : Els, k = T.length ∧ f 0 = v ∧ f 1 = .int .i64 n ∧ f 2 = FV ∧ f 6 = .int .i64 (20 : Nat) ∧ f 7 = .int .i64 D.length ∧ f 8 = .int .i64 (D.length + 20) ∧ (D ++ T).Perm rs ∧ (∀ U, Chunks Lt 20 U → Chunks Lt 20 (D ++ U)) ∧ Cxr wb w1 L (⟨77, 14, v, rs.length, (D ++ T : Els).flatten⟩ :: R)) (rs.length) ?_ ?_
  · skip
    exact ⟨[], rs, rfl, rfl, rfl, rfl, rfl, rfl, rfl, List.Perm.refl _, fun U h => h, cx⟩
  intro gk2 f w hJ
  obtain ⟨D, T, hk, hs0, hs1, hs2, hs6, hs7, hs8, hp, hD, cx⟩ := hJ
  refine wp_seq ?_
  refine wp_seq ?_
  refine wp_region_lit ?_
  refine s_val rfl rfl (v_move rfl hs8) ?_
  refine s_val rfl rfl (v_move rfl hs1) ?_
  refine s_val rfl rfl (v_cmp rfl rfl rfl rfl) ?_
  refine wpList_nil ?_
  refine c_split rfl (fun hc13 => ?_) (fun hc13 => ?_)
  · skip
    try simp only [bsl] at hc13
    have hlp := hp.length_eq
    simp only [List.length_append] at hlp
    have e : D ++ T = D ++ T.take 20 ++ T.drop 20 := by rw [List.append_assoc, List.take_append_drop]
    have hlt : (T.take 20).length = 20 := by rw [List.length_take]; omega
    rw [e] at cx hp
    refine wp_skip ?_
    refine wp_block ?_
    refine wp_seq ?_
    refine wp_region_lit ?_
    refine s_val rfl rfl (v_move rfl hs0) ?_
    refine s_val rfl rfl (v_move rfl hs7) ?_
    refine s_val rfl rfl (v_move rfl hs8) ?_
    refine s_val rfl rfl (v_move rfl hs2) ?_
    refine s_callR rfl rfl (runs_fn Try.func149 rfl rfl rfl rfl) (c149 wb L R v rs.length D (T.take 20) (T.drop 20) _ _ _ cx (Rw.cut hRs hp) hp.length_eq hn1 (df_mid hd hp) rfl (by rw [hlt]; rfl)) ?_; intro q18 w hp18
    obtain ⟨Z, hZ, hsZ, cx⟩ := hp18
    have hlZ := hZ.length_eq
    refine wpList_nil ?_
    refine wp_seq ?_
    refine wp_region_lit ?_
    refine s_val rfl rfl (v_move rfl hs8) ?_
    refine s_val rfl rfl (v_assign rfl rfl) ?_
    refine wpList_nil ?_
    refine wp_region_lit ?_
    refine s_val rfl rfl (v_move rfl hs8) ?_
    refine s_val rfl rfl (v_move rfl hs6) ?_
    refine s_val rfl rfl (v_add rfl rfl rfl (by omega) (by omega)) ?_
    refine s_val rfl rfl (v_assign rfl rfl) ?_
    refine wpList_nil ?_
    refine ⟨(T.drop 20).length, _, by rw [List.length_drop]; omega, rfl, D ++ Z, T.drop 20, rfl, hs0, hs1, hs2, hs6, ?_, ?_, perm_mid hZ hp, ?_, cx⟩
    · show Value.int .i64 _ = _; congr 1; rw [List.length_append]; omega
    · show Value.int .i64 _ = _; congr 1; rw [List.length_append]; omega
    · intro U hU; rw [List.append_assoc]; exact hD _ (.cons Z U (by omega) hsZ hU)
  try simp only [bsl] at hc13
  have hlp := hp.length_eq
  simp only [List.length_append] at hlp
  have e : D ++ T = D ++ T ++ [] := by simp
  rw [e] at cx hp
  refine wp_exit ?_
  refine wp_seq ?_
  refine wp_region_lit ?_
  refine s_val rfl rfl (v_move rfl hs0) ?_
  refine s_val rfl rfl (v_move rfl hs7) ?_
  refine s_val rfl rfl (v_move rfl hs1) ?_
  refine s_val rfl rfl (v_move rfl hs2) ?_
  refine s_callR rfl rfl (runs_fn Try.func149 rfl rfl rfl rfl) (c149 wb L R v rs.length D T [] _ _ _ cx (Rw.cut hRs hp) hp.length_eq hn1 (df_mid hd hp) rfl (by omega)) ?_; intro q27 w hp27
  obtain ⟨Z, hZ, hsZ, cx⟩ := hp27
  have hlZ := hZ.length_eq
  refine wpList_nil ?_
  refine wp_block ?_
  refine w_loop (fun k f w1 => ∃ (s : Nat) (rs1 : Els), k = rs.length - s ∧ f 0 = v ∧ f 1 = .int .i64 n ∧ f 2 = FV ∧ f 6 = .int .i64 s ∧ 20 ≤ s ∧ s ≤ 4000000 ∧ rs1.Perm rs ∧ Chunks Lt s rs1 ∧ Cxr wb w1 L (⟨77, 14, v, rs.length, (rs1 : Els).flatten⟩ :: R)) (rs.length - 20) ?_ ?_
  · skip
    refine ⟨20, D ++ Z ++ [], rfl, hs0, hs1, hs2, hs6, by omega, by omega, perm_mid hZ hp, ?_, cx⟩
    rw [List.append_nil]
    exact hD _ (.last Z (by omega) hsZ)
  intro gk7 f w hJ
  obtain ⟨s, rs1, hk, hs0, hs1, hs2, hs6, hs20, hsm, hp, hch, cx⟩ := hJ
  refine wp_seq ?_
  refine wp_seq ?_
  refine wp_region_lit ?_
  refine s_val rfl rfl (v_move rfl hs6) ?_
  refine s_val rfl rfl (v_move rfl hs1) ?_
  refine s_val rfl rfl (v_cmp rfl rfl rfl rfl) ?_
  refine wpList_nil ?_
  refine c_split rfl (fun hc30 => ?_) (fun hc30 => ?_)
  · skip
    try simp only [bsl] at hc30
    refine wp_skip ?_
    refine wp_block ?_
    refine wp_seq ?_
    refine wp_region_lit ?_
    refine s_val rfl rfl (v_move rfl hs6) ?_
    refine s_val rfl rfl (v_mul rfl rfl rfl (by omega) (by omega)) ?_
    refine s_val rfl rfl (v_assign rfl rfl) ?_
    refine s_val rfl rfl (v_assign rfl rfl) ?_
    refine wpList_nil ?_
    refine wp_seq ?_
    refine wp_block ?_
    refine w_loop (fun k f w1 => ∃ D T : Els, k = T.length ∧ f 0 = v ∧ f 1 = .int .i64 n ∧ f 2 = FV ∧ f 6 = .int .i64 s ∧ f 7 = .int .i64 D.length ∧ f 8 = .int .i64 (D.length + 2 * s) ∧ (D ++ T).Perm rs ∧ (∀ U, Chunks Lt (2 * s) U → Chunks Lt (2 * s) (D ++ U)) ∧ Chunks Lt s T ∧ Cxr wb w1 L (⟨77, 14, v, rs.length, (D ++ T : Els).flatten⟩ :: R)) (rs1.length) ?_ ?_
    · skip
      exact ⟨[], rs1, rfl, hs0, hs1, hs2, hs6, rfl, by show Value.int .i64 _ = _; congr 1; simp, hp, fun U h => h, hch, cx⟩
    intro gk9 f w hJ
    obtain ⟨D, T, hk, hs0, hs1, hs2, hs6, hs7, hs8, hp, hD, hch, cx⟩ := hJ
    refine wp_seq ?_
    refine wp_seq ?_
    refine wp_region_lit ?_
    refine s_val rfl rfl (v_move rfl hs8) ?_
    refine s_val rfl rfl (v_move rfl hs1) ?_
    refine s_val rfl rfl (v_cmp rfl rfl rfl rfl) ?_
    refine wpList_nil ?_
    refine c_split rfl (fun hc35 => ?_) (fun hc35 => ?_)
    · skip
      try simp only [bsl] at hc35
      have hlp := hp.length_eq
      simp only [List.length_append] at hlp
      obtain ⟨l1, r1, rfl, hl1, hsa, hc1⟩ := hch.uncons (by omega)
      simp only [List.length_append] at hlp
      obtain ⟨l2, r2, rfl, hl2, hsb, hc2⟩ := hc1.uncons (by omega)
      simp only [List.length_append] at hlp
      have e : D ++ (l1 ++ (l2 ++ r2)) = D ++ (l1 ++ l2) ++ r2 := by simp [List.append_assoc]
      rw [e] at cx hp
      refine wp_skip ?_
      refine wp_block ?_
      refine wp_seq ?_
      refine wp_region_lit ?_
      refine s_val rfl rfl (v_move rfl hs0) ?_
      refine s_val rfl rfl (v_move rfl hs7) ?_
      refine s_val rfl rfl (v_move rfl hs7) ?_
      refine s_val rfl rfl (v_move rfl hs6) ?_
      refine s_val rfl rfl (v_add rfl rfl rfl (by omega) (by omega)) ?_
      refine s_val rfl rfl (v_move rfl hs8) ?_
      refine s_val rfl rfl (v_move rfl hs2) ?_
      refine s_callR rfl rfl (runs_fn Try.func150 rfl rfl rfl rfl) (c150 _ wb L R v rs.length D l1 l2 r2 _ _ _ _ (Nat.le_refl _) cx (Rw.cut hRs hp) hp.length_eq hn1 (df_mid hd hp) hsa hsb (by omega) (by omega) rfl (by omega) (by omega)) ?_; intro q43 w hp43
      obtain ⟨Z, hZ, hsZ, cx⟩ := hp43
      have hlZ := hZ.length_eq
      simp only [List.length_append] at hlZ
      refine wpList_nil ?_
      refine wp_seq ?_
      refine wp_region_lit ?_
      refine s_val rfl rfl (v_move rfl hs8) ?_
      refine s_val rfl rfl (v_assign rfl rfl) ?_
      refine wpList_nil ?_
      refine wp_region_lit ?_
      refine s_val rfl rfl (v_move rfl hs8) ?_
      refine s_val rfl rfl (v_move rfl hs6) ?_
      refine s_val rfl rfl (v_mul rfl rfl rfl (by omega) (by omega)) ?_
      refine s_val rfl rfl (v_add rfl rfl rfl (by omega) (by omega)) ?_
      refine s_val rfl rfl (v_assign rfl rfl) ?_
      refine wpList_nil ?_
      refine ⟨r2.length, _, by simp only [List.length_append] at hk; omega, rfl, D ++ Z, r2, rfl, hs0, hs1, hs2, hs6, ?_, ?_, perm_mid hZ hp, ?_, hc2, cx⟩
      · show Value.int .i64 _ = _; congr 1; rw [List.length_append]; omega
      · show Value.int .i64 _ = _; congr 1; rw [List.length_append]; omega
      · intro U hU; rw [List.append_assoc]; exact hD _ (.cons Z U (by omega) hsZ hU)
    try simp only [bsl] at hc35
    have hlp := hp.length_eq
    simp only [List.length_append] at hlp
    refine wp_exit ?_
    refine wp_seq ?_
    refine wp_seq ?_
    refine wp_region_lit ?_
    refine s_val rfl rfl (v_move rfl hs7) ?_
    refine s_val rfl rfl (v_move rfl hs6) ?_
    refine s_val rfl rfl (v_add rfl rfl rfl (by omega) (by omega)) ?_
    refine s_val rfl rfl (v_assign rfl rfl) ?_
    refine wpList_nil ?_
    refine wp_seq ?_
    refine wp_region_lit ?_
    refine s_val rfl rfl (v_move rfl rfl) ?_
    refine s_val rfl rfl (v_move rfl hs1) ?_
    refine s_val rfl rfl (v_cmp rfl rfl rfl rfl) ?_
    refine wpList_nil ?_
    refine c_split rfl (fun hc54 => ?_) (fun hc54 => ?_)
    · skip
      try simp only [bsl] at hc54
      obtain ⟨l1, r1, rfl, hl1, hsa, hc1⟩ := hch.uncons (by omega)
      simp only [List.length_append] at hlp
      have hr1 := hc1.one (by omega)
      have e : D ++ (l1 ++ r1) = D ++ (l1 ++ r1) ++ [] := by simp
      rw [e] at cx hp
      refine wp_region_lit ?_
      refine s_val rfl rfl (v_move rfl hs0) ?_
      refine s_val rfl rfl (v_move rfl hs7) ?_
      refine s_val rfl rfl (v_move rfl rfl) ?_
      refine s_val rfl rfl (v_move rfl hs1) ?_
      refine s_val rfl rfl (v_move rfl hs2) ?_
      refine s_callR rfl rfl (runs_fn Try.func150 rfl rfl rfl rfl) (c150 _ wb L R v rs.length D l1 r1 [] _ _ _ _ (Nat.le_refl _) cx (Rw.cut hRs hp) hp.length_eq hn1 (df_mid hd hp) hsa hr1 (by omega) (by omega) rfl (by omega) (by omega)) ?_; intro q60 w hp60
      obtain ⟨Z, hZ, hsZ, cx⟩ := hp60
      have hlZ := hZ.length_eq
      simp only [List.length_append] at hlZ
      refine wpList_nil ?_
      refine wp_region_lit ?_
      refine s_val rfl rfl (v_move rfl hs6) ?_
      refine s_val rfl rfl (v_mul rfl rfl rfl (by omega) (by omega)) ?_
      refine s_val rfl rfl (v_assign rfl rfl) ?_
      refine wpList_nil ?_
      refine ⟨rs.length - 2 * s, _, by omega, rfl, 2 * s, D ++ Z ++ [], rfl, hs0, hs1, hs2, ?_, by omega, by omega, perm_mid hZ hp, ?_, cx⟩
      · show Value.int .i64 _ = _; congr 1; omega
      · rw [List.append_nil]
        exact hD _ (.last Z (by omega) hsZ)
    try simp only [bsl] at hc54
    refine wp_skip ?_
    refine wp_region_lit ?_
    refine s_val rfl rfl (v_move rfl hs6) ?_
    refine s_val rfl rfl (v_mul rfl rfl rfl (by omega) (by omega)) ?_
    refine s_val rfl rfl (v_assign rfl rfl) ?_
    refine wpList_nil ?_
    refine ⟨rs.length - 2 * s, _, by omega, rfl, 2 * s, D ++ T, rfl, hs0, hs1, hs2, ?_, by omega, by omega, hp, hD _ (.last T (by omega) (hch.one (by omega))), cx⟩
    show Value.int .i64 _ = _; congr 1; omega
  try simp only [bsl] at hc30
  refine wp_exit ?_
  refine ret_no (.inr rfl) Try.results145 ?_
  exact ⟨rs1, hp, hch.one (by rw [hp.length_eq]; omega), cx⟩
set_option maxRecDepth 10000 in
theorem c138 (wb : World) (L : List (Nat × Obj)) (R : List Row) (v : Value) (rs : Els) (w0 : World) (cx : Cxr wb w0 L (⟨77, 14, v, rs.length, (rs : Els).flatten⟩ :: R)) (hRs : ∀ r ∈ rs, Rw r) (hn1 : rs.length ≤ 1048576) (hd : Df rs) : Ret Try.prog 138 [v, FV] w0 (fun _ w' => ∃ Z : Els, Z.Perm rs ∧ Z.Pairwise Lt ∧ Cxr wb w' L (⟨77, 14, v, rs.length, (Z : Els).flatten⟩ :: R)) := by
  refine ret_enter Try.func138 rfl Try.ntmps138 rfl ?_
  obtain ⟨va, vc, hv, _⟩ := cx.ownRow
  refine wp_region_lit ?_
  refine s_val rfl rfl (v_move rfl rfl) ?_
  refine s_val rfl rfl (v_move rfl rfl) ?_
  refine s_val rfl rfl (v_lenSlice rfl hv Try.underlying31) ?_
  refine s_val rfl rfl (v_move rfl rfl) ?_
  refine s_callR rfl rfl (runs_fn Try.func145 rfl rfl rfl rfl) (c145 wb L R v rs _ _ cx hRs hn1 hd rfl) ?_; intro q8 w hp8
  refine wpList_nil ?_
  exact ret_no (.inr rfl) Try.results138 hp8
set_option maxRecDepth 10000 in
theorem c137 (A : Nat → Prop) (fs : Fs) (s : Value) (w0 : World) (hA : ∀ b, A b → b < w0.heap.size) (hv : RepF A w0 s fs) (hl : fs.length ≤ 1048576) : Fc Try.prog 137 [s] w0 (fun x w' => ∃ rs, w'.ownsRow w0.heap.size 77 14 x fs.length rs.flatten ∧ RowsF A w' fs rs) := by
  obtain ⟨rs, hrs, hsrc, hlen0, hone0⟩ := src_fields hv
  obtain ⟨fb, fo, hsl, hreps⟩ := hv
  obtain ⟨fa, fc, rfl, hfa⟩ := hsl.form
  refine ret_enter Try.func137 rfl Try.ntmps137 rfl ?_
  have cx := Ctx.start w0
  refine wp_seq ?_
  refine wp_region_lit ?_
  refine s_val rfl rfl (v_assign rfl rfl) ?_
  refine wpList_nil ?_
  refine wp_seq ?_
  refine wp_seq ?_
  refine wp_region_lit ?_
  refine s_val rfl rfl (v_move rfl rfl) ?_
  refine s_val rfl rfl (v_slNil rfl rfl rfl Try.underlying31) ?_
  refine wpList_nil ?_
  refine c_split rfl (fun hc4 => ?_) (fun hc4 => ?_)
  · skip
    refine wp_seq ?_
    refine wp_region_lit ?_
    refine s_val rfl rfl (v_assign rfl rfl) ?_
    refine wpList_nil ?_
    refine wp_ret ?_
    refine ret_tmp Try.results137 rfl ?_
    have h0 : fs = [] := by
      rcases hsl with ⟨h0, _⟩ | ⟨ad, cap, e, _⟩
      · exact List.eq_nil_of_length_eq_zero h0
      · simp only [Value.slice.injEq] at e
        rw [e.1] at hc4
        cases hc4
    subst h0
    exact ⟨cx.ext, [], World.ownsRow_nil _ _ _ _, trivial⟩
  refine wp_skip ?_
  refine wp_seq ?_
  refine wp_region_lit ?_
  refine s_bsl0 cx Try.underlying31 sz77 rfl rfl rfl ?_; intro b5 w cx hb5 hw5
  refine s_val rfl rfl (v_move rfl rfl) ?_
  replace cx := cx.toRow (k := 0) (size := 14) (cs := []) rfl (by decide)
  refine s_appendS cx ei77 Try.underlying31 rfl rfl rfl rfl rfl (hsrc.up cx.ext) hlen0 hone0 (by omega) ?_; intro v7 w cx hgr7 hnw7
  have hn7 : 0 + fs.length = fs.length := by omega
  rw [hn7] at cx
  refine s_val rfl rfl (v_assign rfl rfl) ?_
  refine wpList_nil ?_
  refine wp_ret ?_
  refine ret_tmp Try.results137 rfl ?_
  exact ⟨cx.ext, rs, cx.head, RowsF.mono (fun _ h => h) (fun b hb => cx.ext.block b (hA b hb)) _ _ hrs⟩
set_option maxRecDepth 10000 in
theorem c114 (u : V) (r : List Value) (w0 : World) (hv : Val w0 u r) (hl : u.fields.length ≤ 1048576) (hn : (keysOf u.fields).Nodup) : Fc Try.prog 114 [.agg r.toArray] w0 (fun x w' => Fld w' x (sortF u.fields)) := by
  obtain ⟨bs, ls, fs, rfl, _, _, hfs⟩ := hv.open
  refine ret_enter Try.func114 rfl Try.ntmps114 rfl ?_
  have cx := Ctx.start w0
  refine wp_seq ?_
  refine wp_region_lit ?_
  refine s_box cx rfl rfl rfl rfl rfl ?_; intro b1 w cx hb1 hw1
  refine s_val rfl rfl (v_assign rfl rfl) ?_
  refine wpList_nil ?_
  refine wp_seq ?_
  refine wp_region_lit ?_
  refine s_val rfl rfl (v_fa fa33_7 rfl rfl) ?_
  refine s_val rfl rfl (v_load1 rfl rfl Try.underlying31 rfl (cx.cell 0 rfl rfl)) ?_
  have cxc := cx
  refine s_fn cx (c137 (fun b => b < w0.heap.size) u.fields _ _ (fun b hb => Nat.lt_of_lt_of_le hb cx.ext.size) (RepF.mono (fun _ h => h) (fun b hb => cx.ext.block b hb) hfs) hl) Try.func137 rfl rfl rfl rfl rfl rfl ?_; intro q6 w cx hw6 hp6
  obtain ⟨rs, hrow6, hrs⟩ := hp6
  have hrl := (RowsF.length _ _ hrs).2
  rw [← hrl] at hrow6
  replace cx := cxc.callRow hw6 hrow6
  have hrs0 : RowsF (fun b => b < w0.heap.size) w0 u.fields rs := RowsF.mono (fun _ h => h) (fun b hb => (cx.ext.block b hb).symm) _ _ hrs
  refine s_val rfl rfl (v_assign rfl rfl) ?_
  refine wpList_nil ?_
  refine wp_seq ?_
  refine wp_region_lit ?_
  refine s_val rfl rfl (v_move rfl rfl) ?_
  refine s_callR rfl rfl (runs_fn Try.func138 rfl rfl rfl rfl) (c138 w0 _ _ _ rs _ cx (RowsF.rw _ _ hrs) (by omega) (hrs.df hn)) ?_; intro q8 w hp8
  obtain ⟨Z, hZ, hsZ, cx⟩ := hp8
  refine wpList_nil ?_
  refine wp_seq ?_
  refine wp_region_lit ?_
  refine s_val rfl rfl (v_move rfl rfl) ?_
  refine s_val rfl rfl (v_assign rfl rfl) ?_
  refine wpList_nil ?_
  refine wp_ret ?_
  refine ret_tmp Try.results114 rfl ?_
  refine ⟨cx.ext, ?_⟩
  have hrow := cx.head
  simp only at hrow
  rw [hrl] at hrow
  refine RepF.mono ?_ (fun _ _ => rfl) (fld_of_row hrow (sortF_length _).symm (RowsF.sort (RowsF.mono (fun _ h => h) (fun b hb => cx.ext.block b hb) _ _ hrs0) hn hZ hsZ) (fun _ _ => rfl))
  rintro b (hb | hb)
  · exact Nat.lt_of_lt_of_le hb cx.ext.size
  · exact (Made_lt cx.head b hb).2
end Go.Proofs.Ytmkihcdcgkdilaa
end
section
set_option linter.unusedVariables false
set_option linter.unusedSimpArgs false
namespace Go.Dk
open Go Go.RowKit
section
variable {P : Program} {ops : Array Oper} {Q : Exit → Act → World → Prop} {rest : List Oper} {o : Oper} {n : Nat} {f : Nat → Value} {w w0 : World} {L : List (Nat × Obj)} {R : List Row} {ρ : Operand → Value}
theorem s_fnR {d k : Nat} {args : List Value} {T : Value → World → Prop} (cx : Cxr w0 w L R) (hc : Fc P k args w T) (hg : o.guard = none) (hd : o.dst = some d) (hr : Runs P (ev n f) o k args)
    (h : ∀ v w', Cxr w0 w' L R → Below w.heap.size w w' → T v w' → wpList P ops Q rest (St n (upd f d v)) w') : wpList P ops Q (o :: rest) (St n f) w :=
  s_callR hg hd hr hc fun v w' ⟨hw, hr⟩ => h v w' (cx.call hw) hw hr
theorem s_fnRB {d k : Nat} {args : List Value} {p : Bool → Prop} (cx : Cxr w0 w L R) (hc : Fc P k args w (IsB p)) (hg : o.guard = none) (hd : o.dst = some d) (hr : Runs P (ev n f) o k args)
    (h : ∀ b w', Cxr w0 w' L R → Below w.heap.size w w' → p b → wpList P ops Q rest (St n (upd f d (.bool b))) w') : wpList P ops Q (o :: rest) (St n f) w :=
  s_fnR cx hc hg hd hr fun v w' hcx hw ⟨b, hv, hp⟩ => by subst hv; exact h b w' hcx hw hp
theorem s_gfnR {d j dj k : Nat} {pol c : Bool} {args : List Value} {T : Value → World → Prop} (cx : Cxr w0 w L R) (hg : o.guard = some (j, pol)) (hd : o.dst = some d) (hj : (ops[j]?).bind (·.dst) = some dj) (hw : WantB (ev n f (.tmp dj)) pol c)
    (hc : c = true → Fc P k args w T) (hr : c = true → Runs P (ev n f) o k args)
    (h : ∀ v w', Cxr w0 w' L R → Below w.heap.size w w' → (c = true → T v w') → wpList P ops Q rest (St n (upd f d (gv c v))) w') : wpList P ops Q (o :: rest) (St n f) w := by
  have hwant := wanted_St (o := o) (ops := ops) hg hj hw
  refine wpList_step fun K hK => ?_
  rw [hwant]
  cases c with
  | true =>
    simp only [if_true]
    unfold Oper.wp
    rw [eval_St, hr rfl w]
    refine Calls.mono (hc rfl) ?_
    rintro e w' ⟨v, rfl, hbel, hr⟩
    show K ((St n f).put o.dst v) w'
    refine hK _ _ ?_
    rw [hd, put_St]
    have h := h v w' (cx.call hbel) hbel fun _ => hr
    unfold gv at h
    exact h
  | false =>
    simp only [Bool.false_eq_true, if_false]
    refine hK _ _ ?_
    rw [hd, put_St]
    have h := h undef w cx (Below.refl _ _) (fun e => by cases e)
    unfold gv at h
    exact h
theorem s_gfnRB {d j dj k : Nat} {pol c : Bool} {args : List Value} {p : Bool → Prop} (cx : Cxr w0 w L R) (hg : o.guard = some (j, pol)) (hd : o.dst = some d) (hj : (ops[j]?).bind (·.dst) = some dj) (hw : WantB (ev n f (.tmp dj)) pol c)
    (hc : c = true → Fc P k args w (IsB p)) (hr : c = true → Runs P (ev n f) o k args)
    (h : ∀ b w', Cxr w0 w' L R → Below w.heap.size w w' → (c = true → p b) → wpList P ops Q rest (St n (upd f d (gv c (.bool b)))) w') : wpList P ops Q (o :: rest) (St n f) w := by
  refine s_gfnR cx hg hd hj hw hc hr fun v w' hcx hbel hr => ?_
  cases c with
  | true =>
    obtain ⟨b, rfl, hp⟩ := hr rfl
    exact h b w' hcx hbel fun _ => hp
  | false =>
    have h := h false w' hcx hbel fun e => by cases e
    unfold gv at h ⊢
    exact h
theorem v_boolNe {t t' : TypeId} {x y : Operand} {a b : Bool} (ho : o.op = .binOp .neq t x y t') (hx : ρ x = .bool a) (hy : ρ y = .bool b) (hu : P.underlying t = some .bool) : (execOp ρ o).run P w = .ok (.value (.bool (!decide (a = b)))) w := by
  unfold execOp; rw [ho]
  have := run_neq_bool (w := w) t a b hu
  have e : (!(a == b)) = !decide (a = b) := by cases a <;> cases b <;> rfl
  rw [e] at this
  simp [hx, hy, eqGuard, this]
theorem Fc.det {k : Nat} {args : List Value} {p : Bool → Prop} {b0 : Bool} (h : Fc P k args w (IsB p)) (hp : ∀ b, p b → b = b0) : Fc P k args w (fun u _ => u = .bool b0) :=
  h.mono fun v w' _ ⟨b, hv, hb⟩ => by rw [hv, hp b hb]
theorem bool_of (p : Prop) : ∃ b : Bool, b = true ↔ p := ⟨@decide p (Classical.propDecidable p), @decide_eq_true_iff p (Classical.propDecidable p)⟩
end
end Go.Dk
namespace Go.Proofs.Ytmkihcdcgkdilaa
open Go Go.Dk Go.RowKit
theorem z39 : Zero Try.prog 39 [.nilFunc] := zero_of (v := .nilFunc) (by kernel_rfl) rfl
end Go.Proofs.Ytmkihcdcgkdilaa
end
section
namespace Go.Proofs.Ytmkihcdcgkdilaa
open Go Go.Dk Go.RowKit
set_option linter.unusedSimpArgs false
set_option linter.unusedVariables false
attribute [local irreducible] Go.wpList Go.Code.wp Go.bodyPost Go.wpStill Go.wpQuiet
theorem byt_at {w : World} {b o : Nat} {l : List UInt8} (h : RowAt w b o (l.map byteVal)) {i : Nat} (hi : i < l.length) : RowAt w b (o + i * 1) [.int .u8 (l.getD i 0).toNat] := by
  intro j x hj
  cases j with
  | zero =>
    simp at hj; subst hj
    refine h (i * 1) _ ?_
    rw [List.getElem?_map, Nat.mul_one, List.getElem?_eq_getElem hi]
    simp [byteVal, List.getElem?_eq_getElem hi]
  | succ j => simp at hj
theorem byteVal_inj {a b : UInt8} (h : (a.toNat : Int) = (b.toNat : Int)) : a = b := UInt8.toNat_inj.1 (by omega)
set_option maxRecDepth 10000 in
theorem c113 (A : Nat → Prop) (l1 l2 : List UInt8) (s1 s2 : Value) (w0 : World) (h1 : RepB A w0 s1 l1) (h2 : RepB A w0 s2 l2) (hA : ∀ b, A b → b < w0.heap.size) (hb1 : l1.length ≤ 1048576) (hb2 : l2.length ≤ 1048576) : Fc Try.prog 113 [s1, s2] w0 (IsB fun b => b = true ↔ l1 = l2) := by
  obtain ⟨a1, c1, b1, o1, rfl, hfa1, hrow1⟩ := h1.form
  obtain ⟨a2, c2, b2, o2, rfl, hfa2, hrow2⟩ := h2.form
  refine ret_enter Try.func113 rfl Try.ntmps113 rfl ?_
  have cx := Ctx.start w0
  refine wp_seq ?_
  refine wp_region_lit ?_
  refine s_val rfl rfl (v_assign rfl rfl) ?_
  refine wpList_nil ?_
  refine wp_seq ?_
  refine wp_seq ?_
  refine wp_region_lit ?_
  refine s_val rfl rfl (v_move rfl rfl) ?_
  refine s_val rfl rfl (v_lenSlice rfl rfl Try.underlying29) ?_
  refine s_val rfl rfl (v_move rfl rfl) ?_
  refine s_val rfl rfl (v_lenSlice rfl rfl Try.underlying29) ?_
  refine s_val rfl rfl (v_cmp rfl rfl rfl rfl) ?_
  refine wpList_nil ?_
  refine c_split rfl (fun hc10 => ?_) (fun hc10 => ?_)
  · skip
    try simp only [bsl] at hc10
    refine wp_seq ?_
    refine wp_region_lit ?_
    refine s_val rfl rfl (v_assign rfl rfl) ?_
    refine wpList_nil ?_
    refine wp_ret ?_
    refine ret_tmp Try.results113 rfl ?_
    exact ⟨cx.ext, _, rfl, by constructor
                              · intro h; cases h
                              · intro h; subst h; omega⟩
  try simp only [bsl] at hc10
  refine wp_skip ?_
  refine wp_seq ?_
  refine wp_seq ?_
  refine wp_region_lit ?_
  refine s_val rfl rfl (v_move rfl rfl) ?_
  refine s_val rfl rfl (v_lenSlice rfl rfl Try.underlying29) ?_
  refine s_val rfl rfl (v_move rfl rfl) ?_
  refine wpList_nil ?_
  refine wp_block ?_
  refine w_loop (fun k f w1 => ∃ i : Nat, k + i = l1.length ∧ f 0 = .slice a1 l1.length c1 ∧ f 1 = .slice a2 l2.length c2 ∧ f 12 = .int .i64 l1.length ∧ f 13 = .int .i64 i ∧ Ctx w0 w1 [] ∧ ∀ j, j < i → l1.getD j 0 = l2.getD j 0) (l1.length) ?_ ?_
  · skip
    exact ⟨0, by omega, rfl, rfl, rfl, rfl, cx, fun j hj => by omega⟩
  intro gk4 f w hJ
  obtain ⟨i, hki, hs0, hs1, hs12, hs13, cx, hall⟩ := hJ
  refine wp_seq ?_
  refine wp_region_lit ?_
  refine s_val rfl rfl (v_cmp rfl hs13 hs12 rfl) ?_
  refine wpList_nil ?_
  refine wp_seq ?_
  refine c_split rfl (fun hc14 => ?_) (fun hc14 => ?_)
  · skip
    try simp only [bsl] at hc14
    obtain rfl := hfa1 (by omega)
    obtain rfl := hfa2 (by omega)
    have hx1 := byt_at hrow1 (i := i) (by omega)
    have hx2 := byt_at hrow2 (i := i) (by omega)
    refine wp_skip ?_
    refine wp_seq ?_
    refine wp_block ?_
    refine wp_seq ?_
    refine wp_region_lit ?_
    refine s_val rfl rfl (v_move rfl hs13) ?_
    refine s_val rfl rfl (v_assign rfl rfl) ?_
    refine wpList_nil ?_
    refine wp_seq ?_
    refine w_quiet cx mixed (by kernel_rfl) ?_
    refine q_val rfl rfl (fun w cx hwQ => v_move rfl hs0) ?_
    refine q_val rfl rfl (fun w cx hwQ => v_move rfl rfl) ?_
    refine q_val rfl rfl (fun w cx hwQ => v_ia Try.underlying29 sz5 rfl rfl rfl (by omega) (by omega)) ?_
    refine q_val rfl rfl (fun w cx hwQ => v_load1 rfl rfl Try.underlying5 rfl ((hx1.up (cx.ext)).cell 0 rfl)) ?_
    refine q_val rfl rfl (fun w cx hwQ => v_move rfl hs1) ?_
    refine q_val rfl rfl (fun w cx hwQ => v_move rfl rfl) ?_
    refine q_val rfl rfl (fun w cx hwQ => v_ia Try.underlying29 sz5 rfl rfl rfl (by omega) (by omega)) ?_
    refine q_val rfl rfl (fun w cx hwQ => v_load1 rfl rfl Try.underlying5 rfl ((hx2.up (cx.ext)).cell 0 rfl)) ?_
    refine q_val rfl rfl (fun w cx hwQ => v_cmp rfl rfl rfl rfl) ?_
    refine q_nil ?_; rintro w ⟨cx, hwQ6⟩
    refine c_split rfl (fun hc24 => ?_) (fun hc24 => ?_)
    · skip
      try simp only [bsl] at hc24
      replace hc24 : l1.getD i 0 ≠ l2.getD i 0 := fun e => hc24 (by rw [e])
      refine wp_seq ?_
      refine wp_region_lit ?_
      refine s_val rfl rfl (v_assign rfl rfl) ?_
      refine wpList_nil ?_
      refine wp_ret ?_
      refine ret_tmp Try.results113 rfl ?_
      refine ⟨cx.ext, _, rfl, ?_⟩
      constructor
      · intro h; cases h
      · intro h
        subst h
        exact absurd rfl hc24
    try simp only [bsl] at hc24
    replace hc24 := byteVal_inj hc24
    refine wp_skip ?_
    refine wp_region_lit ?_
    refine s_val rfl rfl (v_add rfl hs13 rfl (by omega) (by omega)) ?_
    refine s_val rfl rfl (v_move rfl rfl) ?_
    refine wpList_nil ?_
    refine ⟨gk4 - 1, _, by omega, rfl, i + 1, by omega, hs0, hs1, hs12, rfl, cx, fun j hj => ?_⟩
    rcases Nat.lt_or_ge j i with h | h
    · exact hall j h
    · obtain rfl : j = i := by omega
      exact hc24
  try simp only [bsl] at hc14
  refine wp_exit ?_
  refine wp_seq ?_
  refine wp_region_lit ?_
  refine s_val rfl rfl (v_assign rfl rfl) ?_
  refine wpList_nil ?_
  refine wp_ret ?_
  refine ret_tmp Try.results113 rfl ?_
  refine ⟨cx.ext, _, rfl, ?_⟩
  constructor
  · intro _
    refine List.ext_getElem (by omega) fun j hj1 hj2 => ?_
    have := hall j (by omega)
    rw [List.getD, List.getD, List.getElem?_eq_getElem hj1, List.getElem?_eq_getElem hj2] at this
    exact this
  · intro _; rfl
set_option maxRecDepth 10000 in
theorem c116 (l1 l2 : List V) (s1 s2 : Value) (cap : List Value) (w0 : World) (h1 : Lst w0 s1 l1) (h2 : Lst w0 s2 l2) (hb1 : l1.length ≤ 1048576) (hb2 : l2.length ≤ 1048576)
    (H : ∀ w', Below w0.heap.size w0 w' → ∀ (i : Nat) (x y : V) (r r' : List Value), l1[i]? = some x → l2[i]? = some y → Val w' x r → Val w' y r' → Fc Try.prog 115 ([.agg r.toArray, .agg r'.toArray] ++ cap) w' (IsB fun b => b = true ↔ canon x = canon y)) : Fc Try.prog 116 [s1, s2, .func (.func 115) #[] cap.toArray] w0 (IsB fun b => b = true ↔ l1.map canon = l2.map canon) := by
  obtain ⟨a1, c1, b1, o1, rfl, hfa1, hget1⟩ := h1.open
  obtain ⟨a2, c2, b2, o2, rfl, hfa2, hget2⟩ := h2.open
  refine ret_enter Try.func116 rfl Try.ntmps116 rfl ?_
  have cx := Ctx.start w0
  refine wp_seq ?_
  refine wp_region_lit ?_
  refine s_val rfl rfl (v_assign rfl rfl) ?_
  refine wpList_nil ?_
  refine wp_seq ?_
  refine wp_seq ?_
  refine wp_region_lit ?_
  refine s_val rfl rfl (v_move rfl rfl) ?_
  refine s_val rfl rfl (v_lenSlice rfl rfl Try.underlying30) ?_
  refine s_val rfl rfl (v_move rfl rfl) ?_
  refine s_val rfl rfl (v_lenSlice rfl rfl Try.underlying30) ?_
  refine s_val rfl rfl (v_cmp rfl rfl rfl rfl) ?_
  refine wpList_nil ?_
  refine c_split rfl (fun hc14 => ?_) (fun hc14 => ?_)
  · skip
    try simp only [bsl] at hc14
    refine wp_seq ?_
    refine wp_region_lit ?_
    refine s_val rfl rfl (v_assign rfl rfl) ?_
    refine wpList_nil ?_
    refine wp_ret ?_
    refine ret_tmp Try.results116 rfl ?_
    refine ⟨cx.ext, _, rfl, ?_⟩
    constructor
    · intro h; cases h
    · intro h
      have := congrArg List.length h
      simp at this; omega
  try simp only [bsl] at hc14
  refine wp_skip ?_
  refine wp_seq ?_
  refine wp_seq ?_
  refine wp_region_lit ?_
  refine s_val rfl rfl (v_move rfl rfl) ?_
  refine s_val rfl rfl (v_lenSlice rfl rfl Try.underlying30) ?_
  refine s_val rfl rfl (v_move rfl rfl) ?_
  refine wpList_nil ?_
  refine wp_block ?_
  refine w_loop (fun k f w1 => ∃ i : Nat, k + i = l1.length ∧ f 15 = .slice a1 l1.length c1 ∧ f 1 = .slice a2 l2.length c2 ∧ f 2 = .func (.func 115) #[] cap.toArray ∧ f 16 = .int .i64 l1.length ∧ f 17 = .int .i64 i ∧ Ctx w0 w1 [] ∧ ∀ (j : Nat) (x y : V), j < i → l1[j]? = some x → l2[j]? = some y → canon x = canon y) (l1.length) ?_ ?_
  · skip
    exact ⟨0, by omega, rfl, rfl, rfl, rfl, rfl, cx, fun j x y hj => by omega⟩
  intro gk4 f w hJ
  obtain ⟨i, hki, hs15, hs1, hs2, hs16, hs17, cx, hall⟩ := hJ
  refine wp_seq ?_
  refine wp_region_lit ?_
  refine s_val rfl rfl (v_cmp rfl hs17 hs16 rfl) ?_
  refine wpList_nil ?_
  refine wp_seq ?_
  refine c_split rfl (fun hc18 => ?_) (fun hc18 => ?_)
  · skip
    try simp only [bsl] at hc18
    obtain rfl := hfa1 (by omega)
    obtain rfl := hfa2 (by omega)
    have hg1 : l1[i]? = some l1[i] := List.getElem?_eq_getElem (by omega)
    have hg2 : l2[i]? = some l2[i] := List.getElem?_eq_getElem (by omega)
    obtain ⟨r1, hr1, hv1⟩ := hget1 i _ hg1
    obtain ⟨r2, hr2, hv2⟩ := hget2 i _ hg2
    have hlz := hv1.len
    have hlz2 := hv2.len
    refine wp_skip ?_
    refine wp_seq ?_
    refine wp_block ?_
    refine wp_seq ?_
    refine wp_region_lit ?_
    refine s_val rfl rfl (v_move rfl hs17) ?_
    refine s_val rfl rfl (v_ia Try.underlying30 sz33 rfl hs15 hs17 (by omega) (by omega)) ?_
    refine s_val rfl rfl (v_load rfl rfl Try.underlying33 rfl sz33 (hr1.up cx.ext) hv1.len) ?_
    refine s_alloc cx z33 rfl rfl rfl ?_; intro b8 w cx hb8 hw8
    refine s_val rfl rfl (v_assign rfl rfl) ?_
    refine s_storeAllG cx 0 rfl rfl rfl rfl rfl rfl (by rw [hlz]; exact sz33) (by rw [hlz]; rfl) hv1.oneCell ?_; intro w cx hg8
    refine wpList_nil ?_
    refine wp_seq ?_
    refine wp_region_lit ?_
    refine s_val rfl rfl (v_move rfl hs1) ?_
    refine s_val rfl rfl (v_move rfl rfl) ?_
    refine s_val rfl rfl (v_ia Try.underlying30 sz33 rfl rfl rfl (by omega) (by omega)) ?_
    refine s_val rfl rfl (v_load rfl rfl Try.underlying33 rfl sz33 (hr2.up cx.ext) hv2.len) ?_
    refine s_alloc cx z33 rfl rfl rfl ?_; intro b9 w cx hb9 hw9
    refine s_storeAllG cx 0 rfl rfl rfl rfl rfl rfl (by rw [hlz2]; exact sz33) (by rw [hlz2]; rfl) hv2.oneCell ?_; intro w cx hg9
    refine wpList_nil ?_
    refine wp_seq ?_
    refine wp_region_lit ?_
    refine s_val rfl rfl (v_move rfl hs2) ?_
    refine s_val rfl rfl (v_load rfl rfl Try.underlying33 rfl sz33 (cx.row 1 rfl) hlz) ?_
    refine s_val rfl rfl (v_load rfl rfl Try.underlying33 rfl sz33 (cx.row 0 rfl) hlz2) ?_
    refine s_fnRB cx (H _ cx.ext i _ _ _ _ hg1 hg2 (hv1.up cx.ext) (hv2.up cx.ext)) rfl rfl (runs_fnv Try.func115 rfl rfl rfl rfl rfl) ?_; intro q29 w cx hw29 hp29
    refine s_val rfl rfl (v_not rfl rfl) ?_
    refine wpList_nil ?_
    refine c_split rfl (fun hc30 => ?_) (fun hc30 => ?_)
    · skip
      refine wp_seq ?_
      refine wp_region_lit ?_
      refine s_val rfl rfl (v_assign rfl rfl) ?_
      refine wpList_nil ?_
      refine wp_ret ?_
      refine ret_tmp Try.results116 rfl ?_
      refine ⟨cx.ext, _, rfl, ?_⟩
      constructor
      · intro h; cases h
      · intro h
        exfalso
        have h4 : (l1.map canon)[i]? = (l2.map canon)[i]? := by rw [h]
        rw [List.getElem?_map, List.getElem?_map, hg1, hg2] at h4
        have h5 := hp29.2 (Option.some.inj h4)
        rw [h5] at hc30
        cases hc30
    refine wp_skip ?_
    refine wp_region_lit ?_
    refine s_val rfl rfl (v_add rfl hs17 rfl (by omega) (by omega)) ?_
    refine s_val rfl rfl (v_move rfl rfl) ?_
    refine wpList_nil ?_
    refine ⟨gk4 - 1, _, by omega, rfl, i + 1, by omega, hs15, hs1, hs2, hs16, rfl, by simpa using cx.drop 2, fun j x y hj hx hy => ?_⟩
    rcases Nat.lt_or_ge j i with h | h
    · exact hall j x y h hx hy
    · obtain rfl : j = i := by omega
      rw [hg1] at hx
      rw [hg2] at hy
      obtain rfl := Option.some.inj hx
      obtain rfl := Option.some.inj hy
      refine hp29.1 ?_
      cases q29
      · cases hc30
      · rfl
  try simp only [bsl] at hc18
  refine wp_exit ?_
  refine wp_seq ?_
  refine wp_region_lit ?_
  refine s_val rfl rfl (v_assign rfl rfl) ?_
  refine wpList_nil ?_
  refine wp_ret ?_
  refine ret_tmp Try.results116 rfl ?_
  refine ⟨cx.ext, _, rfl, ?_⟩
  constructor
  · intro _
    refine List.ext_getElem (by simp; omega) fun j hj1 hj2 => ?_
    simp only [List.length_map] at hj1 hj2
    simp only [List.getElem_map]
    exact hall j _ _ (by omega) (List.getElem?_eq_getElem hj1) (List.getElem?_eq_getElem hj2)
  · intro _; rfl
set_option maxRecDepth 10000 in
theorem c117 (l1 l2 : Fs) (s1 s2 : Value) (cap : List Value) (w0 : World) (h1 : Fld w0 s1 l1) (h2 : Fld w0 s2 l2) (hb1 : l1.length ≤ 1048576) (hb2 : l2.length ≤ 1048576)
    (H : ∀ w', Below w0.heap.size w0 w' → ∀ (i : Nat) (x y : ByteArray × V) (r r' : List Value), l1[i]? = some x → l2[i]? = some y → Val w' x.2 r → Val w' y.2 r' → Fc Try.prog 118 ([.agg (.string x.1 :: r).toArray, .agg (.string y.1 :: r').toArray] ++ cap) w' (IsB fun b => b = true ↔ (x.1, canon x.2) = (y.1, canon y.2))) : Fc Try.prog 117 [s1, s2, .func (.func 118) #[] cap.toArray] w0 (IsB fun b => b = true ↔ (l1.map fun kv => (kv.1, canon kv.2)) = l2.map fun kv => (kv.1, canon kv.2)) := by
  obtain ⟨a1, c1, b1, o1, rfl, hfa1, hget1⟩ := h1.open
  obtain ⟨a2, c2, b2, o2, rfl, hfa2, hget2⟩ := h2.open
  refine ret_enter Try.func117 rfl Try.ntmps117 rfl ?_
  have cx := Ctx.start w0
  refine wp_seq ?_
  refine wp_region_lit ?_
  refine s_val rfl rfl (v_assign rfl rfl) ?_
  refine wpList_nil ?_
  refine wp_seq ?_
  refine wp_seq ?_
  refine wp_region_lit ?_
  refine s_val rfl rfl (v_move rfl rfl) ?_
  refine s_val rfl rfl (v_lenSlice rfl rfl Try.underlying31) ?_
  refine s_val rfl rfl (v_move rfl rfl) ?_
  refine s_val rfl rfl (v_lenSlice rfl rfl Try.underlying31) ?_
  refine s_val rfl rfl (v_cmp rfl rfl rfl rfl) ?_
  refine wpList_nil ?_
  refine c_split rfl (fun hc14 => ?_) (fun hc14 => ?_)
  · skip
    try simp only [bsl] at hc14
    refine wp_seq ?_
    refine wp_region_lit ?_
    refine s_val rfl rfl (v_assign rfl rfl) ?_
    refine wpList_nil ?_
    refine wp_ret ?_
    refine ret_tmp Try.results117 rfl ?_
    refine ⟨cx.ext, _, rfl, ?_⟩
    constructor
    · intro h; cases h
    · intro h
      have := congrArg List.length h
      simp at this; omega
  try simp only [bsl] at hc14
  refine wp_skip ?_
  refine wp_seq ?_
  refine wp_seq ?_
  refine wp_region_lit ?_
  refine s_val rfl rfl (v_move rfl rfl) ?_
  refine s_val rfl rfl (v_lenSlice rfl rfl Try.underlying31) ?_
  refine s_val rfl rfl (v_move rfl rfl) ?_
  refine wpList_nil ?_
  refine wp_block ?_
  refine w_loop (fun k f w1 => ∃ i : Nat, k + i = l1.length ∧ f 15 = .slice a1 l1.length c1 ∧ f 1 = .slice a2 l2.length c2 ∧ f 2 = .func (.func 118) #[] cap.toArray ∧ f 16 = .int .i64 l1.length ∧ f 17 = .int .i64 i ∧ Ctx w0 w1 [] ∧ ∀ (j : Nat) (x y : ByteArray × V), j < i → l1[j]? = some x → l2[j]? = some y → (x.1, canon x.2) = (y.1, canon y.2)) (l1.length) ?_ ?_
  · skip
    exact ⟨0, by omega, rfl, rfl, rfl, rfl, rfl, cx, fun j x y hj => by omega⟩
  intro gk4 f w hJ
  obtain ⟨i, hki, hs15, hs1, hs2, hs16, hs17, cx, hall⟩ := hJ
  refine wp_seq ?_
  refine wp_region_lit ?_
  refine s_val rfl rfl (v_cmp rfl hs17 hs16 rfl) ?_
  refine wpList_nil ?_
  refine wp_seq ?_
  refine c_split rfl (fun hc18 => ?_) (fun hc18 => ?_)
  · skip
    try simp only [bsl] at hc18
    obtain rfl := hfa1 (by omega)
    obtain rfl := hfa2 (by omega)
    have hg1 : l1[i]? = some l1[i] := List.getElem?_eq_getElem (by omega)
    have hg2 : l2[i]? = some l2[i] := List.getElem?_eq_getElem (by omega)
    obtain ⟨r1, hr1, hv1⟩ := hget1 i _ hg1
    obtain ⟨r2, hr2, hv2⟩ := hget2 i _ hg2
    have hlz : (Value.string l1[i].1 :: r1).length = 14 := by rw [List.length_cons, hv1.len]
    have hlz2 : (Value.string l2[i].1 :: r2).length = 14 := by rw [List.length_cons, hv2.len]
    refine wp_skip ?_
    refine wp_seq ?_
    refine wp_block ?_
    refine wp_seq ?_
    refine wp_region_lit ?_
    refine s_val rfl rfl (v_move rfl hs17) ?_
    refine s_val rfl rfl (v_ia Try.underlying31 sz77 rfl hs15 hs17 (by omega) (by omega)) ?_
    refine s_val rfl rfl (v_load rfl rfl Try.underlying77 rfl sz77 (hr1.up cx.ext) hlz) ?_
    refine s_alloc cx z77 rfl rfl rfl ?_; intro b8 w cx hb8 hw8
    refine s_val rfl rfl (v_assign rfl rfl) ?_
    refine s_storeAllG cx 0 rfl rfl rfl rfl rfl rfl (by rw [hlz]; exact sz77) (by rw [hlz]; rfl) (by exact hv1.oneCell) ?_; intro w cx hg8
    refine wpList_nil ?_
    refine wp_seq ?_
    refine wp_region_lit ?_
    refine s_val rfl rfl (v_move rfl hs1) ?_
    refine s_val rfl rfl (v_move rfl rfl) ?_
    refine s_val rfl rfl (v_ia Try.underlying31 sz77 rfl rfl rfl (by omega) (by omega)) ?_
    refine s_val rfl rfl (v_load rfl rfl Try.underlying77 rfl sz77 (hr2.up cx.ext) hlz2) ?_
    refine s_alloc cx z77 rfl rfl rfl ?_; intro b9 w cx hb9 hw9
    refine s_storeAllG cx 0 rfl rfl rfl rfl rfl rfl (by rw [hlz2]; exact sz77) (by rw [hlz2]; rfl) (by exact hv2.oneCell) ?_; intro w cx hg9
    refine wpList_nil ?_
    refine wp_seq ?_
    refine wp_region_lit ?_
    refine s_val rfl rfl (v_move rfl hs2) ?_
    refine s_val rfl rfl (v_load rfl rfl Try.underlying77 rfl sz77 (cx.row 1 rfl) hlz) ?_
    refine s_val rfl rfl (v_load rfl rfl Try.underlying77 rfl sz77 (cx.row 0 rfl) hlz2) ?_
    refine s_fnRB cx (H _ cx.ext i _ _ _ _ hg1 hg2 (hv1.up cx.ext) (hv2.up cx.ext)) rfl rfl (runs_fnv Try.func118 rfl rfl rfl rfl rfl) ?_; intro q29 w cx hw29 hp29
    refine s_val rfl rfl (v_not rfl rfl) ?_
    refine wpList_nil ?_
    refine c_split rfl (fun hc30 => ?_) (fun hc30 => ?_)
    · skip
      refine wp_seq ?_
      refine wp_region_lit ?_
      refine s_val rfl rfl (v_assign rfl rfl) ?_
      refine wpList_nil ?_
      refine wp_ret ?_
      refine ret_tmp Try.results117 rfl ?_
      refine ⟨cx.ext, _, rfl, ?_⟩
      constructor
      · intro h; cases h
      · intro h
        exfalso
        have h4 : (l1.map fun kv => (kv.1, canon kv.2))[i]? = (l2.map fun kv => (kv.1, canon kv.2))[i]? := by rw [h]
        rw [List.getElem?_map, List.getElem?_map, hg1, hg2] at h4
        have h5 := hp29.2 (Option.some.inj h4)
        rw [h5] at hc30
        cases hc30
    refine wp_skip ?_
    refine wp_region_lit ?_
    refine s_val rfl rfl (v_add rfl hs17 rfl (by omega) (by omega)) ?_
    refine s_val rfl rfl (v_move rfl rfl) ?_
    refine wpList_nil ?_
    refine ⟨gk4 - 1, _, by omega, rfl, i + 1, by omega, hs15, hs1, hs2, hs16, rfl, by simpa using cx.drop 2, fun j x y hj hx hy => ?_⟩
    rcases Nat.lt_or_ge j i with h | h
    · exact hall j x y h hx hy
    · obtain rfl : j = i := by omega
      rw [hg1] at hx
      rw [hg2] at hy
      obtain rfl := Option.some.inj hx
      obtain rfl := Option.some.inj hy
      refine hp29.1 ?_
      cases q29
      · cases hc30
      · rfl
  try simp only [bsl] at hc18
  refine wp_exit ?_
  refine wp_seq ?_
  refine wp_region_lit ?_
  refine s_val rfl rfl (v_assign rfl rfl) ?_
  refine wpList_nil ?_
  refine wp_ret ?_
  refine ret_tmp Try.results117 rfl ?_
  refine ⟨cx.ext, _, rfl, ?_⟩
  constructor
  · intro _
    refine List.ext_getElem (by simp; omega) fun j hj1 hj2 => ?_
    simp only [List.length_map] at hj1 hj2
    simp only [List.getElem_map]
    exact hall j _ _ (by omega) (List.getElem?_eq_getElem hj1) (List.getElem?_eq_getElem hj2)
  · intro _; rfl
end Go.Proofs.Ytmkihcdcgkdilaa
end
section
namespace Go.Proofs.Ytmkihcdcgkdilaa
open Go Go.Dk Go.RowKit
set_option linter.unusedSimpArgs false
set_option linter.unusedVariables false
attribute [local irreducible] Go.wpList Go.Code.wp Go.bodyPost Go.wpStill Go.wpQuiet
theorem sc_iff (a b : Sc) : a = b ↔ a.kind = b.kind ∧ a.b = b.b ∧ (a.neg = b.neg ∧ a.dig = b.dig ∧ a.exp = b.exp) ∧ (a.tk = b.tk ∧ a.td = b.td ∧ a.tn = b.tn ∧ a.tz = b.tz) ∧ a.text = b.text := by
  cases a; cases b; simp [and_assoc]
set_option maxRecDepth 10000 in
theorem c115 (x y : V) (r r' : List Value) (b2 b3 : Nat) (left : Int) (w0 : World) (hx : Val w0 x r) (hy : Val w0 y r') (h2 : RowAt w0 b2 0 [.bool false]) (h3 : RowAt w0 b3 0 [.int .i64 left]) (hl0 : 0 ≤ left) (hl1 : left ≤ 65536)
    (H : ∀ w', Below w0.heap.size w0 w' → Fc Try.prog 78 [.agg r.toArray, .agg r'.toArray, .bool false, .int .i64 (left - 1)] w' (IsB fun b => b = true ↔ canon x = canon y)) : Fc Try.prog 115 [.agg r.toArray, .agg r'.toArray, .pointer (some ⟨b2, 0, none⟩), .pointer (some ⟨b3, 0, none⟩)] w0 (IsB fun b => b = true ↔ canon x = canon y) := by
  refine ret_enter Try.func115 rfl Try.ntmps115 rfl ?_
  have cx := Ctx.start w0
  refine wp_seq ?_
  refine wp_region_lit ?_
  refine s_box cx rfl rfl rfl rfl rfl ?_; intro b4 w cx hb4 hw4
  refine s_box cx rfl rfl rfl rfl rfl ?_; intro b5 w cx hb5 hw5
  refine s_val rfl rfl (v_assign rfl rfl) ?_
  refine wpList_nil ?_
  refine wp_seq ?_
  refine wp_region_lit ?_
  refine s_val rfl rfl (v_load rfl rfl Try.underlying33 rfl sz33 (cx.row 1 rfl) hx.len) ?_
  refine s_val rfl rfl (v_load rfl rfl Try.underlying33 rfl sz33 (cx.row 0 rfl) hy.len) ?_
  refine s_val rfl rfl (v_load1 rfl rfl Try.underlying4 rfl ((h2.up cx.ext).cell 0 rfl)) ?_
  refine s_val rfl rfl (v_load1 rfl rfl Try.underlying3 rfl ((h3.up cx.ext).cell 0 rfl)) ?_
  refine s_val rfl rfl (v_sub rfl rfl rfl (by omega) (by omega)) ?_
  refine s_fnB cx (H _ cx.ext) Try.func78 rfl rfl rfl rfl rfl rfl ?_; intro q12 w cx hw12 hp12
  refine s_val rfl rfl (v_assign rfl rfl) ?_
  refine wpList_nil ?_
  refine wp_ret ?_
  refine ret_tmp Try.results115 rfl ?_
  exact ⟨cx.ext, _, rfl, hp12⟩
set_option maxRecDepth 10000 in
theorem c118 (k k' : ByteArray) (x y : V) (r r' : List Value) (b11 : Nat) (cap : List Value) (w0 : World) (hx : Val w0 x r) (hy : Val w0 y r') (h11 : RowAt w0 b11 0 [.func (.func 115) #[] cap.toArray])
    (H : ∀ w', Below w0.heap.size w0 w' → Fc Try.prog 115 ([.agg r.toArray, .agg r'.toArray] ++ cap) w' (IsB fun b => b = true ↔ canon x = canon y)) : Fc Try.prog 118 [.agg (.string k :: r).toArray, .agg (.string k' :: r').toArray, .pointer (some ⟨b11, 0, none⟩)] w0 (IsB fun b => b = true ↔ (k, canon x) = (k', canon y)) := by
  refine ret_enter Try.func118 rfl Try.ntmps118 rfl ?_
  have cx := Ctx.start w0
  refine wp_seq ?_
  refine wp_region_lit ?_
  refine s_box cx rfl rfl rfl rfl rfl ?_; intro b3 w cx hb3 hw3
  refine s_box cx rfl rfl rfl rfl rfl ?_; intro b4 w cx hb4 hw4
  refine s_val rfl rfl (v_assign rfl rfl) ?_
  refine wpList_nil ?_
  refine wp_seq ?_
  refine wp_region_lit ?_
  refine s_val rfl rfl (v_fa fa77_0 rfl rfl) ?_
  refine s_val rfl rfl (v_load1 rfl rfl Try.underlying9 rfl (cx.cell 1 rfl rfl)) ?_
  refine s_val rfl rfl (v_fa fa77_0 rfl rfl) ?_
  refine s_val rfl rfl (v_load1 rfl rfl Try.underlying9 rfl (cx.cell 0 rfl rfl)) ?_
  refine s_val rfl rfl (v_strEq rfl rfl rfl) ?_
  refine s_val rfl rfl (v_move rfl rfl) ?_
  refine s_gval rfl rfl rfl wT (fun hc => v_load1 rfl rfl Try.underlying39 rfl ((h11.up cx.ext).cell 0 rfl)) ?_
  refine s_gval rfl rfl rfl wT (fun hc => v_fa fa77_1 rfl (by first | exact gve hc rfl | exact gve (and_l hc) rfl | exact gve (and_l (and_l hc)) rfl | rfl)) ?_
  refine s_gval rfl rfl rfl wT (fun hc => v_load rfl (gve hc rfl) Try.underlying33 rfl sz33 ((cx.row 1 rfl).tail) hx.len) ?_
  refine s_gval rfl rfl rfl wT (fun hc => v_fa fa77_1 rfl (by first | exact gve hc rfl | exact gve (and_l hc) rfl | exact gve (and_l (and_l hc)) rfl | rfl)) ?_
  refine s_gval rfl rfl rfl wT (fun hc => v_load rfl (gve hc rfl) Try.underlying33 rfl sz33 ((cx.row 0 rfl).tail) hy.len) ?_
  refine s_gfnRB cx rfl rfl rfl wT (fun hc => H _ cx.ext) (fun hc => runs_fnv Try.func115 rfl rfl rfl (gve hc rfl) (cons_eq (gve hc rfl) (cons_eq (gve hc rfl) rfl))) ?_; intro q17 w cx hw17 hp17
  refine s_val rfl rfl (v_and rfl rfl rfl rfl) ?_
  refine s_val rfl rfl (v_assign rfl rfl) ?_
  refine wpList_nil ?_
  refine wp_ret ?_
  refine ret_tmp Try.results118 rfl ?_
  refine ⟨cx.ext, _, rfl, ?_⟩
  show (_ && _) = true ↔ _
  rw [Bool.and_eq_true, decide_eq_true_eq, Prod.mk.injEq]
  constructor
  · rintro ⟨h1, h2⟩; exact ⟨h1, (hp17 (by simpa using h1)).1 h2⟩
  · rintro ⟨h1, h2⟩; exact ⟨h1, (hp17 (by simpa using h1)).2 h2⟩
set_option maxRecDepth 10000 in
set_option maxHeartbeats 3200000 in
theorem c78 : ∀ (d : Nat) (x y : V) (r r' : List Value) (left : Int) (w0 : World), okd d x → okd d y → Fine x → Fine y → Val w0 x r → Val w0 y r' → (d : Int) ≤ left → left ≤ 65536 → Fc Try.prog 78 [.agg r.toArray, .agg r'.toArray, .bool false, .int .i64 left] w0 (IsB fun b => b = true ↔ canon x = canon y) := by
  intro d
  induction d with
  | zero => intro x y r r' left w0 hok; exact hok.elim
  | succ d ih =>
  intro x y r r' left w0 hok hok2 hf hf2 hv hv2 hdl hl1
  have hself := hf.self
  have hself2 := hf2.self
  obtain ⟨bs, ls, fs, rfl, hbs, hls, hfs⟩ := hv.open
  obtain ⟨bs2, ls2, fs2, rfl, hbs2, hls2, hfs2⟩ := hv2.open
  refine ret_enter Try.func78 rfl Try.ntmps78 rfl ?_
  have cx := Ctx.start w0
  refine wp_seq ?_
  refine wp_region_lit ?_
  refine s_box cx rfl rfl rfl rfl rfl ?_; intro b4 w cx hb4 hw4
  refine s_box cx rfl rfl rfl rfl rfl ?_; intro b5 w cx hb5 hw5
  refine s_box cx rfl rfl rfl rfl rfl ?_; intro b6 w cx hb6 hw6
  refine s_box cx rfl rfl rfl rfl rfl ?_; intro b7 w cx hb7 hw7
  refine s_val rfl rfl (v_assign rfl rfl) ?_
  refine wpList_nil ?_
  refine wp_seq ?_
  refine wp_seq ?_
  refine wp_region_lit ?_
  refine s_val rfl rfl (v_fa fa33_0 rfl rfl) ?_
  refine s_val rfl rfl (v_load1 rfl rfl Try.underlying3 rfl (cx.cell 3 rfl rfl)) ?_
  refine s_val rfl rfl (v_fa fa33_0 rfl rfl) ?_
  refine s_val rfl rfl (v_load1 rfl rfl Try.underlying3 rfl (cx.cell 2 rfl rfl)) ?_
  refine s_val rfl rfl (v_cmp rfl rfl rfl rfl) ?_
  refine s_val rfl rfl (v_move rfl rfl) ?_
  refine s_gval rfl rfl rfl wF (fun hc => v_fa fa33_1 rfl (by first | exact gve hc rfl | exact gve (and_l hc) rfl | exact gve (and_l (and_l hc)) rfl | rfl)) ?_
  refine s_gval rfl rfl rfl wF (fun hc => v_load1 rfl (by first | exact gve hc rfl | exact gve (and_l hc) rfl | exact gve (and_l (and_l hc)) rfl | rfl) Try.underlying4 rfl (cx.cell 3 rfl rfl)) ?_
  refine s_gval rfl rfl rfl wF (fun hc => v_fa fa33_1 rfl (by first | exact gve hc rfl | exact gve (and_l hc) rfl | exact gve (and_l (and_l hc)) rfl | rfl)) ?_
  refine s_gval rfl rfl rfl wF (fun hc => v_load1 rfl (by first | exact gve hc rfl | exact gve (and_l hc) rfl | exact gve (and_l (and_l hc)) rfl | rfl) Try.underlying4 rfl (cx.cell 2 rfl rfl)) ?_
  refine s_gval rfl rfl rfl wF (fun hc => v_boolNe rfl (by first | exact gve hc rfl | exact gve (and_l hc) rfl | exact gve (and_l (and_l hc)) rfl | rfl) (by first | exact gve hc rfl | exact gve (and_l hc) rfl | exact gve (and_l (and_l hc)) rfl | rfl) Try.underlying4) ?_
  refine s_val rfl rfl (v_or rfl rfl rfl rfl) ?_
  refine s_val rfl rfl (v_move rfl rfl) ?_
  refine s_gval rfl rfl rfl wF (fun hc => v_fa fa33_2 rfl (by first | exact gve hc rfl | exact gve (and_l hc) rfl | exact gve (and_l (and_l hc)) rfl | rfl)) ?_
  refine s_gval rfl rfl rfl wF (fun hc => v_load rfl (by first | exact gve hc rfl | exact gve (and_l hc) rfl | exact gve (and_l (and_l hc)) rfl | rfl) Try.underlying26 rfl sz26 ((cx.row 3 rfl).r3 2 rfl rfl rfl) rfl) ?_
  refine s_gval rfl rfl rfl wF (fun hc => v_fa fa33_2 rfl (by first | exact gve hc rfl | exact gve (and_l hc) rfl | exact gve (and_l (and_l hc)) rfl | rfl)) ?_
  refine s_gval rfl rfl rfl wF (fun hc => v_load rfl (by first | exact gve hc rfl | exact gve (and_l hc) rfl | exact gve (and_l (and_l hc)) rfl | rfl) Try.underlying26 rfl sz26 ((cx.row 2 rfl).r3 2 rfl rfl rfl) rfl) ?_
  refine s_gval rfl rfl rfl wF (fun hc => v_agg eqg26 (ne26 _ _ _ _ _ _) rfl (by first | exact gve hc rfl | exact gve (and_l hc) rfl | exact gve (and_l (and_l hc)) rfl | rfl) (by first | exact gve hc rfl | exact gve (and_l hc) rfl | exact gve (and_l (and_l hc)) rfl | rfl)) ?_
  refine s_val rfl rfl (v_or rfl rfl rfl rfl) ?_
  refine s_val rfl rfl (v_move rfl rfl) ?_
  refine s_gval rfl rfl rfl wF (fun hc => v_fa fa33_3 rfl (by first | exact gve hc rfl | exact gve (and_l hc) rfl | exact gve (and_l (and_l hc)) rfl | rfl)) ?_
  refine s_gval rfl rfl rfl wF (fun hc => v_load rfl (by first | exact gve hc rfl | exact gve (and_l hc) rfl | exact gve (and_l (and_l hc)) rfl | rfl) Try.underlying28 rfl sz28 ((cx.row 3 rfl).r4 5 rfl rfl rfl rfl) rfl) ?_
  refine s_gval rfl rfl rfl wF (fun hc => v_fa fa33_3 rfl (by first | exact gve hc rfl | exact gve (and_l hc) rfl | exact gve (and_l (and_l hc)) rfl | rfl)) ?_
  refine s_gval rfl rfl rfl wF (fun hc => v_load rfl (by first | exact gve hc rfl | exact gve (and_l hc) rfl | exact gve (and_l (and_l hc)) rfl | rfl) Try.underlying28 rfl sz28 ((cx.row 2 rfl).r4 5 rfl rfl rfl rfl) rfl) ?_
  refine s_gval rfl rfl rfl wF (fun hc => v_agg eqg28 (ne28 _ _ _ _ _ _ _ _) rfl (by first | exact gve hc rfl | exact gve (and_l hc) rfl | exact gve (and_l (and_l hc)) rfl | rfl) (by first | exact gve hc rfl | exact gve (and_l hc) rfl | exact gve (and_l (and_l hc)) rfl | rfl)) ?_
  refine s_val rfl rfl (v_or rfl rfl rfl rfl) ?_
  refine s_val rfl rfl (v_move rfl rfl) ?_
  refine s_gval rfl rfl rfl wF (fun hc => v_fa fa33_4 rfl (by first | exact gve hc rfl | exact gve (and_l hc) rfl | exact gve (and_l (and_l hc)) rfl | rfl)) ?_
  refine s_gval rfl rfl rfl wF (fun hc => v_load1 rfl (by first | exact gve hc rfl | exact gve (and_l hc) rfl | exact gve (and_l (and_l hc)) rfl | rfl) Try.underlying9 rfl (cx.cell 3 rfl rfl)) ?_
  refine s_gval rfl rfl rfl wF (fun hc => v_fa fa33_4 rfl (by first | exact gve hc rfl | exact gve (and_l hc) rfl | exact gve (and_l (and_l hc)) rfl | rfl)) ?_
  refine s_gval rfl rfl rfl wF (fun hc => v_load1 rfl (by first | exact gve hc rfl | exact gve (and_l hc) rfl | exact gve (and_l (and_l hc)) rfl | rfl) Try.underlying9 rfl (cx.cell 2 rfl rfl)) ?_
  refine s_gval rfl rfl rfl wF (fun hc => v_strNe rfl (by first | exact gve hc rfl | exact gve (and_l hc) rfl | exact gve (and_l (and_l hc)) rfl | rfl) (by first | exact gve hc rfl | exact gve (and_l hc) rfl | exact gve (and_l (and_l hc)) rfl | rfl)) ?_
  refine s_val rfl rfl (v_or rfl rfl rfl rfl) ?_
  refine s_val rfl rfl (v_move rfl rfl) ?_
  refine s_gval rfl rfl rfl wF (fun hc => v_fa fa33_5 rfl (by first | exact gve hc rfl | exact gve (and_l hc) rfl | exact gve (and_l (and_l hc)) rfl | rfl)) ?_
  refine s_gval rfl rfl rfl wF (fun hc => v_load1 rfl (by first | exact gve hc rfl | exact gve (and_l hc) rfl | exact gve (and_l (and_l hc)) rfl | rfl) Try.underlying29 rfl (cx.cell 3 rfl rfl)) ?_
  refine s_gval rfl rfl rfl wF (fun hc => v_fa fa33_5 rfl (by first | exact gve hc rfl | exact gve (and_l hc) rfl | exact gve (and_l (and_l hc)) rfl | rfl)) ?_
  refine s_gval rfl rfl rfl wF (fun hc => v_load1 rfl (by first | exact gve hc rfl | exact gve (and_l hc) rfl | exact gve (and_l (and_l hc)) rfl | rfl) Try.underlying29 rfl (cx.cell 2 rfl rfl)) ?_
  refine s_gfnB cx rfl rfl rfl wF (fun hc => c113 (fun b => b < w0.heap.size) x.bytes y.bytes _ _ _ (RepB.mono (fun _ h => h) (fun b hb => cx.ext.block b hb) hbs) (RepB.mono (fun _ h => h) (fun b hb => cx.ext.block b hb) hbs2) (fun b hb => Nat.lt_of_lt_of_le hb cx.ext.size) hself.2.2.1 hself2.2.2.1) Try.func113 rfl rfl rfl (fun hc => cons_eq (by first | exact gve hc rfl | exact gve (and_l hc) rfl | exact gve (and_l (and_l hc)) rfl | rfl) (cons_eq (by first | exact gve hc rfl | exact gve (and_l hc) rfl | exact gve (and_l (and_l hc)) rfl | rfl) rfl)) ?_; intro q50 w cx hw50 hp50
  refine s_gval rfl rfl rfl wF (fun hc => v_not rfl (by first | exact gve hc rfl | exact gve (and_l hc) rfl | exact gve (and_l (and_l hc)) rfl | rfl)) ?_
  refine s_val rfl rfl (v_or rfl rfl rfl rfl) ?_
  refine s_val rfl rfl (v_move rfl rfl) ?_
  refine s_gval rfl rfl rfl wF (fun hc => v_load1 rfl (by first | exact gve hc rfl | exact gve (and_l hc) rfl | exact gve (and_l (and_l hc)) rfl | rfl) Try.underlying3 rfl (cx.cell 0 rfl rfl)) ?_
  refine s_gval rfl rfl rfl wF (fun hc => v_cmp rfl (by first | exact gve hc rfl | exact gve (and_l hc) rfl | exact gve (and_l (and_l hc)) rfl | rfl) rfl rfl) ?_
  refine s_val rfl rfl (v_or rfl rfl rfl rfl) ?_
  refine wpList_nil ?_
  refine c_split rfl (fun hc56 => ?_) (fun hc56 => ?_)
  · skip
    refine wp_seq ?_
    refine wp_region_lit ?_
    refine s_val rfl rfl (v_assign rfl rfl) ?_
    refine wpList_nil ?_
    refine wp_ret ?_
    refine ret_tmp Try.results78 rfl ?_
    refine ⟨cx.ext, _, rfl, ?_⟩
    constructor
    · intro h; cases h
    · intro h
      exfalso
      rw [canon_iff] at h
      obtain ⟨h1, h2, _⟩ := h
      rw [sc_iff] at h1
      obtain ⟨e1, e2, ⟨e3, e4, e5⟩, ⟨e6, e7, e8, e9⟩, e10⟩ := h1
      have e50 : q50 = true := (hp50 (by simp [e1, e2, e3, e4, e5, e6, e7, e8, e9, e10])).2 h2
      simp [e1, e2, e3, e4, e5, e6, e7, e8, e9, e10, e50] at hc56
      omega
  have hall := hc56
  simp only [Bool.or_eq_false_iff, Bool.not_eq_false', decide_eq_false_iff_not, bne_eq_false_iff_eq, Bool.and_eq_true, decide_eq_true_eq, beq_iff_eq] at hall
  have hsc : x.sc = y.sc := by
    rw [sc_iff]
    simp_all
  have hby : x.bytes = y.bytes := by
    have hq : q50 = true := by simp_all
    exact (hp50 (by simp_all)).1 hq
  refine wp_skip ?_
  refine wp_seq ?_
  refine w_quiet cx mixed (by kernel_rfl) ?_
  refine q_val rfl rfl (fun w cx hwQ => v_fa fa33_7 rfl rfl) ?_
  refine q_val rfl rfl (fun w cx hwQ => v_load1 rfl rfl Try.underlying31 rfl (cx.cell 3 rfl rfl)) ?_
  refine q_val rfl rfl (fun w cx hwQ => v_fa fa33_7 rfl rfl) ?_
  refine q_val rfl rfl (fun w cx hwQ => v_load1 rfl rfl Try.underlying31 rfl (cx.cell 2 rfl rfl)) ?_
  refine q_val rfl rfl (fun w cx hwQ => v_assign rfl rfl) ?_
  refine q_val rfl rfl (fun w cx hwQ => v_assign rfl rfl) ?_
  refine q_nil ?_; rintro w ⟨cx, hwQ3⟩
  refine wp_seq ?_
  refine wp_seq ?_
  refine wp_region_lit ?_
  refine s_val rfl rfl (v_load1 rfl rfl Try.underlying4 rfl (cx.cell 1 rfl rfl)) ?_
  refine s_val rfl rfl (v_not rfl rfl) ?_
  refine wpList_nil ?_
  refine wp_cond_true (by rw [eval_St]; rfl) ?_
  refine w_ord cx (cx.pick2 3 2 rfl rfl rfl) mixed [(0, 63), (2, 65)] #[true, false, true, false, false, false] (by kernel_rfl) (by kernel_rfl) (by kernel_rfl) (by kernel_rfl) ?_
  refine pu_one rfl (wnt_none rfl) (fun w cx => v_load rfl rfl Try.underlying33 rfl sz33 (cx.row 0 rfl) rfl) ?_
  refine pu_one rfl (wnt_none rfl) (fun w cx => v_load rfl rfl Try.underlying33 rfl sz33 (cx.row 1 rfl) rfl) ?_
  refine pu_nil ?_; intro w cx hwD5
  refine x_one (i := 1) (by kernel_rfl) rfl ?_
  refine s_fn cx (c114 x _ _ (hv.up cx.ext) (by omega) hok.2.1) Try.func114 rfl rfl rfl rfl rfl rfl ?_; intro q64 w cx hw64 hp64
  refine x_next ⟨.inl (cx.pick2 3 2 rfl rfl rfl), ?_⟩
  refine x_one (i := 3) (by kernel_rfl) rfl ?_
  refine s_fn cx (c114 y _ _ (hv2.up cx.ext) (by omega) hok2.2.1) Try.func114 rfl rfl rfl rfl rfl rfl ?_; intro q66 w cx hw66 hp66
  replace hp64 := hp64.up hw66
  obtain ⟨wk, rfl⟩ : ∃ x, x = w := ⟨_, rfl⟩
  have hK : Kp (fun b => b < wk.heap.size) wk wk := Kp.refl (fun _ h => h)
  refine x_next ⟨.inr (by kernel_rfl), ?_⟩
  refine x_one (i := 4) (by kernel_rfl) rfl ?_
  refine s_val rfl rfl (v_assign rfl rfl) ?_
  refine x_next ⟨.inr (by kernel_rfl), ?_⟩
  refine x_one (i := 5) (by kernel_rfl) rfl ?_
  refine s_val rfl rfl (v_assign rfl rfl) ?_
  refine x_next ⟨.inr (by kernel_rfl), ?_⟩
  refine x_done (by kernel_rfl) ?_
  refine wp_seq ?_
  refine wp_region_lit ?_
  refine s_val rfl rfl (v_makeFunc2 rfl rfl rfl) ?_
  refine s_alloc cx z39 rfl rfl rfl ?_; intro b11 w cx hb11 hw11
  refine s_store1G cx 0 rfl rfl rfl rfl rfl rfl rfl rfl sz39 ?_; intro w cx hg11
  replace hK := (hK.below hw11).later hg11 (Nat.le_of_eq hb11)
  refine wpList_nil ?_
  refine wp_seq ?_
  refine wp_region_lit ?_
  refine s_val rfl rfl (v_fa fa33_6 rfl rfl) ?_
  refine s_val rfl rfl (v_load1 rfl rfl Try.underlying30 rfl (cx.cell 4 rfl rfl)) ?_
  refine s_val rfl rfl (v_fa fa33_6 rfl rfl) ?_
  refine s_val rfl rfl (v_load1 rfl rfl Try.underlying30 rfl (cx.cell 3 rfl rfl)) ?_
  have hB6 := cx.row 2 rfl
  have hB7 := cx.row 1 rfl
  have hB11 := cx.row 0 rfl
  refine s_val rfl rfl (v_load1 rfl rfl Try.underlying39 rfl (cx.cell 0 rfl rfl)) ?_
  refine s_fnB cx (c116 x.list y.list _ _ [.pointer (some ⟨b6, 0, none⟩), .pointer (some ⟨b7, 0, none⟩)] _ (hls.up cx.ext) (hls2.up cx.ext) hself.2.2.2.1 hself2.2.2.2.1 (fun w1 hb i a b ra rb ha hb1 hva hvb => c115 a b ra rb b6 b7 left w1 hva hvb (hB6.up hb) (hB7.up hb) (by omega) (by omega) fun w2 hb2 => ih a b ra rb (left - 1) w2 (hok.2.2.1 _ (List.mem_of_getElem? ha)) (hok2.2.2.1 _ (List.mem_of_getElem? hb1)) (hf.elem (List.mem_of_getElem? ha)) (hf2.elem (List.mem_of_getElem? hb1)) (hva.up hb2) (hvb.up hb2) (by omega) (by omega))) Try.func116 rfl rfl rfl rfl rfl rfl ?_; intro q73 w cx hw73 hp73
  replace hK := hK.below hw73
  refine s_val rfl rfl (v_move rfl rfl) ?_
  refine s_gval rfl rfl rfl wT (fun hc => v_move rfl (by first | exact gve hc rfl | exact gve (and_l hc) rfl | exact gve (and_l (and_l hc)) rfl | rfl)) ?_
  refine s_gval rfl rfl rfl wT (fun hc => v_move rfl (by first | exact gve hc rfl | exact gve (and_l hc) rfl | exact gve (and_l (and_l hc)) rfl | rfl)) ?_
  have hB6 := cx.row 2 rfl
  have hB7 := cx.row 1 rfl
  have hB11 := cx.row 0 rfl
  refine s_gval rfl rfl rfl wT (fun hc => v_makeFunc1 rfl rfl) ?_
  refine s_gfnB cx rfl rfl rfl wT (fun hc => c117 (sortF x.fields) (sortF y.fields) _ _ [.pointer (some ⟨b11, 0, none⟩)] _ (RepF.mono (fun b hb => Nat.lt_of_lt_of_le hb hK.sz) hK.kp hp64) (RepF.mono (fun b hb => Nat.lt_of_lt_of_le hb hK.sz) hK.kp hp66) (by rw [sortF_length]; omega) (by rw [sortF_length]; omega) (fun w1 hb i a b ra rb ha hb1 hva hvb => c118 a.1 b.1 a.2 b.2 ra rb b11 [.pointer (some ⟨b6, 0, none⟩), .pointer (some ⟨b7, 0, none⟩)] w1 hva hvb (hB11.up hb) fun w2 hb2 => c115 a.2 b.2 ra rb b6 b7 left w2 (hva.up hb2) (hvb.up hb2) ((hB6.up hb).up hb2) ((hB7.up hb).up hb2) (by omega) (by omega) fun w3 hb3 => ih a.2 b.2 ra rb (left - 1) w3 (hok.2.2.2 _ (sortF_mem.1 (List.mem_of_getElem? ha))) (hok2.2.2.2 _ (sortF_mem.1 (List.mem_of_getElem? hb1))) (hf.field (sortF_mem.1 (List.mem_of_getElem? ha))).2 (hf2.field (sortF_mem.1 (List.mem_of_getElem? hb1))).2 ((hva.up hb2).up hb3) ((hvb.up hb2).up hb3) (by omega) (by omega))) Try.func117 rfl rfl rfl (fun hc => cons_eq (gve hc rfl) (cons_eq (gve hc rfl) (cons_eq (gve hc rfl) rfl))) ?_; intro q78 w cx hw78 hp78
  refine s_val rfl rfl (v_and rfl rfl rfl rfl) ?_
  refine s_val rfl rfl (v_assign rfl rfl) ?_
  refine wpList_nil ?_
  refine wp_ret ?_
  refine ret_tmp Try.results78 rfl ?_
  refine ⟨cx.ext, _, rfl, ?_⟩
  show (_ && _) = true ↔ _
  rw [Bool.and_eq_true, canon_iff]
  constructor
  · rintro ⟨h1, h2⟩; exact ⟨hsc, hby, hp73.1 h1, (hp78 h1).1 h2⟩
  · rintro ⟨_, _, h1, h2⟩; exact ⟨hp73.2 h1, (hp78 (hp73.2 h1)).2 h2⟩
set_option maxRecDepth 10000 in
theorem c53 (d : Nat) (x y : V) (r r' : List Value) (w0 : World) (hd : d ≤ 65536) (hox : okd d x) (hoy : okd d y) (hf : Fine x) (hf2 : Fine y) (hx : Val w0 x r) (hy : Val w0 y r') : Fc Try.prog 53 [.agg r.toArray, .agg r'.toArray] w0 (IsB fun b => b = true ↔ canon x = canon y) := by
  refine ret_enter Try.func53 rfl Try.ntmps53 rfl ?_
  have cx := Ctx.start w0
  refine wp_seq ?_
  refine wp_region_lit ?_
  refine s_box cx rfl rfl rfl rfl rfl ?_; intro b2 w cx hb2 hw2
  refine s_box cx rfl rfl rfl rfl rfl ?_; intro b3 w cx hb3 hw3
  refine s_val rfl rfl (v_assign rfl rfl) ?_
  refine wpList_nil ?_
  refine wp_seq ?_
  refine wp_region_lit ?_
  refine s_val rfl rfl (v_load rfl rfl Try.underlying33 rfl sz33 (cx.row 1 rfl) hx.len) ?_
  refine s_val rfl rfl (v_load rfl rfl Try.underlying33 rfl sz33 (cx.row 0 rfl) hy.len) ?_
  refine s_fnB cx (c78 d x y _ _ _ _ hox hoy hf hf2 (hx.up cx.ext) (hy.up cx.ext) (by omega) (by omega)) Try.func78 rfl rfl rfl rfl rfl rfl ?_; intro q7 w cx hw7 hp7
  refine s_val rfl rfl (v_assign rfl rfl) ?_
  refine wpList_nil ?_
  refine wp_ret ?_
  refine ret_tmp Try.results53 rfl ?_
  exact ⟨cx.ext, _, rfl, hp7⟩
end Go.Proofs.Ytmkihcdcgkdilaa
end
section
set_option linter.unusedVariables false
set_option linter.unusedSimpArgs false
namespace Go.Dk
open Go Go.RowKit
theorem strOf_list : ∀ (l : List UInt8) (r : ByteArray), ((l.map fun u => (u.toNat : Int)).foldl (fun r n => r.push (UInt8.ofNat n.toNat)) r).data.toList = r.data.toList ++ l
  | [], r => by simp
  | u :: l, r => by
    simp only [List.map_cons, List.foldl_cons]
    rw [strOf_list l]
    have e : (r.push (UInt8.ofNat ((u.toNat : Int)).toNat)).data.toList = r.data.toList ++ [u] := by
      have : UInt8.ofNat ((u.toNat : Int)).toNat = u := by simp
      rw [this]
      simp [ByteArray.push]
    rw [e]; simp
theorem strB_list (l : List UInt8) : (strB l).data.toList = l := by
  have := strOf_list l ByteArray.empty
  have e : ByteArray.empty.data.toList = [] := rfl
  rw [e, List.nil_append] at this
  exact this
theorem strB_inj {a b : List UInt8} : strB a = strB b ↔ a = b := ⟨fun h => by rw [← strB_list a, h, strB_list], fun h => by rw [h]⟩
theorem v_iff (v u : V) : v = u ↔ v.sc = u.sc ∧ v.bytes = u.bytes ∧ v.list = u.list ∧ v.fields = u.fields := by
  cases v; cases u
  simp only [V.mk.injEq, V.sc, V.bytes, V.list, V.fields]
theorem less_cmp : ∀ a b : List UInt8, Go.Op.bytesLess a b = decide (cmpL a b < 0)
  | [], [] => rfl
  | _ :: _, [] => rfl
  | [], _ :: _ => rfl
  | x :: a, y :: b => by
    unfold Go.Op.bytesLess cmpL
    by_cases h : x = y
    · subst h
      have : ¬ x < x := fun h => absurd (UInt8.lt_iff_toNat_lt.1 h) (Nat.lt_irrefl _)
      simp [this, less_cmp a b]
    · by_cases h1 : x < y <;> simp [h, h1]
theorem le_cmp (a b : ByteArray) : (Go.Op.bytesLess a.toList b.toList || (a.toList == b.toList)) = decide (kc a b ≤ 0) := by
  rw [less_cmp, ByteArray.toList_eq, ByteArray.toList_eq]
  unfold kc
  rw [Bool.eq_iff_iff]
  simp only [Bool.or_eq_true, decide_eq_true_eq, beq_iff_eq]
  constructor
  · rintro (h | h)
    · omega
    · rw [h, cmpL_refl]; omega
  · intro h
    by_cases h0 : cmpL a.data.toList b.data.toList = 0
    · exact .inr (cmpL_zero _ _ h0)
    · exact .inl (by omega)
section
variable {P : Program} {o : Oper} {w : World} {ρ : Operand → Value}
theorem v_strLe {t t' : TypeId} {x y : Operand} {s u : ByteArray} (ho : o.op = .binOp .leq t x y t') (hx : ρ x = .string s) (hy : ρ y = .string u) : (execOp ρ o).run P w = .ok (.value (.bool (decide (kc s u ≤ 0)))) w := by
  unfold execOp; rw [ho]
  simp [hx, hy, eqGuard, binOp, Op.stringOp, ← le_cmp]
end
theorem src_own {w : World} {B e n k : Nat} {v : Value} {rs : Els} (row : w.ownsRow B e 14 v n rs.flatten) (hr : ∀ r ∈ rs, r.length = 14) (hn : rs.length = n) (hk : k ≤ n) :
    ∃ a c, v = .slice a n c ∧ n ≤ c ∧ Src w (sliced a 0 k c 14) k (rs.take k).flatten ∧ Src w (sliced a k n c 14) (n - k) (rs.drop k).flatten := by
  have hl : ∀ (X : Els), (∀ r ∈ X, r.length = 14) → X.flatten.length = X.length * 14 := by
    intro X hX
    induction X with
    | nil => rfl
    | cons x X ih => rw [List.flatten_cons, List.length_append, ih (fun r h => hX r (List.mem_cons_of_mem _ h)), hX x (by simp), List.length_cons]; omega
  rcases row.2 with ⟨rfl, h0⟩ | ⟨g, cap, cur, rfl, hb, hg, hle, _, hcs, htake⟩
  · have : rs = [] := List.eq_nil_of_length_eq_zero (by omega)
    subst this
    have hk0 : k = 0 := by omega
    subst hk0 h0
    exact ⟨none, 0, rfl, Nat.le_refl _, .inl ⟨by simp [sliced], rfl, rfl⟩, .inl ⟨by simp [sliced], rfl, rfl⟩⟩
  · have hrow : RowAt w g 0 rs.flatten := by
      obtain ⟨a, c, e, h⟩ := own_row row
      intro j x hj
      have h0 : 0 < n := by
        have := (List.getElem?_eq_some_iff.1 hj).1
        rw [hl rs hr] at this; omega
      obtain ⟨g', rfl, h1⟩ := h h0
      simp only [Value.slice.injEq, Option.some.injEq, Addr.mk.injEq, and_true, true_and] at e
      obtain ⟨rfl, _⟩ := e
      exact h1 j x hj
    refine ⟨some ⟨g, 0, none⟩, cap, rfl, hle, .inr ⟨⟨g, 0, none⟩, cap, ?_, fun j u hj => ?_⟩, ?_⟩
    · unfold sliced; split <;> simp [add_addr]
    · rw [add_addr]; exact hrow j u (flat_take hj)
    · obtain ⟨ad, h1, h2⟩ := sliced_lo (h := k) (len := n) (cap := cap) hrow (by rw [hl _ fun r h => hr r (List.mem_of_mem_take h), List.length_take, Nat.min_eq_left (by omega)])
      refine .inr ⟨ad, _, h1, fun j u hj => h2 j u hj fun e => ?_⟩
      have := (List.getElem?_eq_some_iff.1 hj).1
      rw [hl _ fun r h => hr r (List.mem_of_mem_drop h), List.length_drop] at this
      omega
theorem insF_at {kv : ByteArray × V} : ∀ (o : Fs) (k : Nat), k ≤ o.length → (∀ j x, j < k → o[j]? = some x → kc x.1 kv.1 ≤ 0) → (∀ x, o[k]? = some x → ¬ kc x.1 kv.1 ≤ 0) → insF kv o = o.take k ++ kv :: o.drop k
  | [], k, hk, _, _ => by simp [insF]
  | x :: r, 0, _, _, h => by
    have := h x (by simp)
    simp [insF, this]
  | x :: r, k + 1, hk, h1, h2 => by
    have := h1 0 x (by omega) (by simp)
    simp only [insF, if_pos this, List.take_succ_cons, List.drop_succ_cons, List.cons_append]
    rw [insF_at r k (by simpa using hk) (fun j y hj hy => h1 (j + 1) y (by omega) (by simpa using hy)) (fun y hy => h2 y (by simpa using hy))]
theorem Cxr.first {w0 w : World} {L : List (Nat × Obj)} {r : Row} {R : List Row} (h : Cxr w0 w L (r :: R)) : Cxr w0 w L [r] :=
  ⟨h.ext, h.own, h.lo, h.nd, fun s hs => by obtain rfl : s = r := by simpa using hs
                                            exact h.rows s (by simp), fun s hs => by obtain rfl : s = r := by simpa using hs
                                                                                     exact h.off s (by simp), List.pairwise_singleton _ _⟩
theorem Cxr.rowOf {w0 w : World} {L : List (Nat × Obj)} {R : List Row} {e k n g c : Nat} {xs : List Value} (cx : Cxr w0 w L (⟨e, k, .slice (some ⟨g, 0, none⟩) n c, n, xs⟩ :: R)) (h0 : 0 < n) : RowAt w g 0 xs := by
  obtain ⟨a, c', e, h⟩ := cx.ownRow
  obtain ⟨g', rfl, h1⟩ := h h0
  simp only [Value.slice.injEq, Option.some.injEq, Addr.mk.injEq, and_true, true_and] at e
  obtain ⟨rfl, _⟩ := e
  exact h1
theorem rows14 {A : Nat → Prop} {w : World} {fs : Fs} {rs : Els} (h : RowsF A w fs rs) : ∀ r ∈ rs, r.length = 14 := RowsF.lens fs rs h
theorem RowsF.one1 {A : Nat → Prop} {w : World} {fs : Fs} {rs : Els} (h : RowsF A w fs rs) : rs.flatten.all (·.oneCell') = true := RowsF.one fs rs h
theorem flatk {A : Nat → Prop} {w : World} {fs : Fs} {rs : Els} (h : RowsF A w fs rs) (k : Nat) (hk : k ≤ fs.length) : (rs.take k).flatten.length = k * 14 ∧ (rs.drop k).flatten.length = (fs.length - k) * 14 := by
  refine ⟨?_, ?_⟩
  · have := (RowsF.length _ _ (RowsF.take _ _ k h)).1
    rw [this, List.length_take]; congr 1; omega
  · have := (RowsF.length _ _ (RowsF.drop _ _ k h)).1
    rw [this, List.length_drop]
end Go.Dk
end
section
namespace Go.Proofs.Ytmkihcdcgkdilaa
open Go Go.Dk Go.RowKit
set_option linter.unusedSimpArgs false
set_option linter.unusedVariables false
attribute [local irreducible] Go.wpList Go.Code.wp Go.bodyPost Go.wpStill Go.wpQuiet
set_option maxRecDepth 10000 in
set_option maxHeartbeats 3200000 in
theorem c22g : ∀ (v u : V) (r1 r2 : List Value) (w0 : World), Val w0 v r1 → Val w0 u r2 → Fine v → Fine u → Fc Try.prog 22 [.agg r1.toArray, .agg r2.toArray] w0 (IsB fun b => b = true ↔ v = u) := by
  intro v
  induction v using V.ind2 with
  | h v ihl ihf =>
  intro u r1 r2 w0 h1 h2 hfin hfin2
  have hself := hfin.self
  have hself2 := hfin2.self
  obtain ⟨bs1, ls1, fs1, rfl, hB1, hL1, hF1⟩ := h1.open
  obtain ⟨bs2, ls2, fs2, rfl, hB2, hL2, hF2⟩ := h2.open
  obtain ⟨la1, lc1, lb1, lo1, rfl, ha1, hl1⟩ := hL1.open
  obtain ⟨la2, lc2, lb2, lo2, rfl, ha2, hl2⟩ := hL2.open
  obtain ⟨fa1, fc1, fb1, fo1, rfl, hg1, hf1⟩ := hF1.open
  obtain ⟨fa2, fc2, fb2, fo2, rfl, hg2, hf2⟩ := hF2.open
  refine ret_enter Try.func22 rfl Try.ntmps22 rfl ?_
  have cx := Ctx.start w0
  refine wp_seq ?_
  refine wp_region_lit ?_
  refine s_box cx rfl rfl rfl rfl rfl ?_; intro b2 w cx hb2 hw2
  refine s_box cx rfl rfl rfl rfl rfl ?_; intro b3 w cx hb3 hw3
  refine s_val rfl rfl (v_assign rfl rfl) ?_
  refine wpList_nil ?_
  refine wp_seq ?_
  refine wp_seq ?_
  refine wp_region_lit ?_
  refine s_val rfl rfl (v_fa fa33_0 rfl rfl) ?_
  refine s_val rfl rfl (v_load1 rfl rfl Try.underlying3 rfl (cx.cell 1 rfl rfl)) ?_
  refine s_val rfl rfl (v_fa fa33_0 rfl rfl) ?_
  refine s_val rfl rfl (v_load1 rfl rfl Try.underlying3 rfl (cx.cell 0 rfl rfl)) ?_
  refine s_val rfl rfl (v_cmp rfl rfl rfl rfl) ?_
  refine s_val rfl rfl (v_move rfl rfl) ?_
  refine s_gval rfl rfl rfl wF (fun hc => v_fa fa33_1 rfl (by first | exact gve hc rfl | exact gve (and_l hc) rfl | exact gve (and_l (and_l hc)) rfl | rfl)) ?_
  refine s_gval rfl rfl rfl wF (fun hc => v_load1 rfl (by first | exact gve hc rfl | exact gve (and_l hc) rfl | exact gve (and_l (and_l hc)) rfl | rfl) Try.underlying4 rfl (cx.cell 1 rfl rfl)) ?_
  refine s_gval rfl rfl rfl wF (fun hc => v_fa fa33_1 rfl (by first | exact gve hc rfl | exact gve (and_l hc) rfl | exact gve (and_l (and_l hc)) rfl | rfl)) ?_
  refine s_gval rfl rfl rfl wF (fun hc => v_load1 rfl (by first | exact gve hc rfl | exact gve (and_l hc) rfl | exact gve (and_l (and_l hc)) rfl | rfl) Try.underlying4 rfl (cx.cell 0 rfl rfl)) ?_
  refine s_gval rfl rfl rfl wF (fun hc => v_boolNe rfl (by first | exact gve hc rfl | exact gve (and_l hc) rfl | exact gve (and_l (and_l hc)) rfl | rfl) (by first | exact gve hc rfl | exact gve (and_l hc) rfl | exact gve (and_l (and_l hc)) rfl | rfl) Try.underlying4) ?_
  refine s_val rfl rfl (v_or rfl rfl rfl rfl) ?_
  refine s_val rfl rfl (v_move rfl rfl) ?_
  refine s_gval rfl rfl rfl wF (fun hc => v_fa fa33_2 rfl (by first | exact gve hc rfl | exact gve (and_l hc) rfl | exact gve (and_l (and_l hc)) rfl | rfl)) ?_
  refine s_gval rfl rfl rfl wF (fun hc => v_load rfl (by first | exact gve hc rfl | exact gve (and_l hc) rfl | exact gve (and_l (and_l hc)) rfl | rfl) Try.underlying26 rfl sz26 ((cx.row 1 rfl).r3 2 rfl rfl rfl) rfl) ?_
  refine s_gval rfl rfl rfl wF (fun hc => v_fa fa33_2 rfl (by first | exact gve hc rfl | exact gve (and_l hc) rfl | exact gve (and_l (and_l hc)) rfl | rfl)) ?_
  refine s_gval rfl rfl rfl wF (fun hc => v_load rfl (by first | exact gve hc rfl | exact gve (and_l hc) rfl | exact gve (and_l (and_l hc)) rfl | rfl) Try.underlying26 rfl sz26 ((cx.row 0 rfl).r3 2 rfl rfl rfl) rfl) ?_
  refine s_gval rfl rfl rfl wF (fun hc => v_agg eqg26 (ne26 _ _ _ _ _ _) rfl (by first | exact gve hc rfl | exact gve (and_l hc) rfl | exact gve (and_l (and_l hc)) rfl | rfl) (by first | exact gve hc rfl | exact gve (and_l hc) rfl | exact gve (and_l (and_l hc)) rfl | rfl)) ?_
  refine s_val rfl rfl (v_or rfl rfl rfl rfl) ?_
  refine s_val rfl rfl (v_move rfl rfl) ?_
  refine s_gval rfl rfl rfl wF (fun hc => v_fa fa33_3 rfl (by first | exact gve hc rfl | exact gve (and_l hc) rfl | exact gve (and_l (and_l hc)) rfl | rfl)) ?_
  refine s_gval rfl rfl rfl wF (fun hc => v_load rfl (by first | exact gve hc rfl | exact gve (and_l hc) rfl | exact gve (and_l (and_l hc)) rfl | rfl) Try.underlying28 rfl sz28 ((cx.row 1 rfl).r4 5 rfl rfl rfl rfl) rfl) ?_
  refine s_gval rfl rfl rfl wF (fun hc => v_fa fa33_3 rfl (by first | exact gve hc rfl | exact gve (and_l hc) rfl | exact gve (and_l (and_l hc)) rfl | rfl)) ?_
  refine s_gval rfl rfl rfl wF (fun hc => v_load rfl (by first | exact gve hc rfl | exact gve (and_l hc) rfl | exact gve (and_l (and_l hc)) rfl | rfl) Try.underlying28 rfl sz28 ((cx.row 0 rfl).r4 5 rfl rfl rfl rfl) rfl) ?_
  refine s_gval rfl rfl rfl wF (fun hc => v_agg eqg28 (ne28 _ _ _ _ _ _ _ _) rfl (by first | exact gve hc rfl | exact gve (and_l hc) rfl | exact gve (and_l (and_l hc)) rfl | rfl) (by first | exact gve hc rfl | exact gve (and_l hc) rfl | exact gve (and_l (and_l hc)) rfl | rfl)) ?_
  refine s_val rfl rfl (v_or rfl rfl rfl rfl) ?_
  refine s_val rfl rfl (v_move rfl rfl) ?_
  refine s_gval rfl rfl rfl wF (fun hc => v_fa fa33_4 rfl (by first | exact gve hc rfl | exact gve (and_l hc) rfl | exact gve (and_l (and_l hc)) rfl | rfl)) ?_
  refine s_gval rfl rfl rfl wF (fun hc => v_load1 rfl (by first | exact gve hc rfl | exact gve (and_l hc) rfl | exact gve (and_l (and_l hc)) rfl | rfl) Try.underlying9 rfl (cx.cell 1 rfl rfl)) ?_
  refine s_gval rfl rfl rfl wF (fun hc => v_fa fa33_4 rfl (by first | exact gve hc rfl | exact gve (and_l hc) rfl | exact gve (and_l (and_l hc)) rfl | rfl)) ?_
  refine s_gval rfl rfl rfl wF (fun hc => v_load1 rfl (by first | exact gve hc rfl | exact gve (and_l hc) rfl | exact gve (and_l (and_l hc)) rfl | rfl) Try.underlying9 rfl (cx.cell 0 rfl rfl)) ?_
  refine s_gval rfl rfl rfl wF (fun hc => v_strNe rfl (by first | exact gve hc rfl | exact gve (and_l hc) rfl | exact gve (and_l (and_l hc)) rfl | rfl) (by first | exact gve hc rfl | exact gve (and_l hc) rfl | exact gve (and_l (and_l hc)) rfl | rfl)) ?_
  refine s_val rfl rfl (v_or rfl rfl rfl rfl) ?_
  refine s_val rfl rfl (v_move rfl rfl) ?_
  refine s_gval rfl rfl rfl wF (fun hc => v_fa fa33_5 rfl (by first | exact gve hc rfl | exact gve (and_l hc) rfl | exact gve (and_l (and_l hc)) rfl | rfl)) ?_
  refine s_gval rfl rfl rfl wF (fun hc => v_load1 rfl (by first | exact gve hc rfl | exact gve (and_l hc) rfl | exact gve (and_l (and_l hc)) rfl | rfl) Try.underlying29 rfl (cx.cell 1 rfl rfl)) ?_
  refine s_gval rfl rfl rfl wF (fun hc => v_b2sR rfl Try.underlying29 Try.underlying5 Try.underlying9 (RepB.mono (fun _ h => h) (fun b hb => cx.ext.block b hb) hB1) (by first | exact gve hc rfl | exact gve (and_l hc) rfl | exact gve (and_l (and_l hc)) rfl | rfl)) ?_
  refine s_gval rfl rfl rfl wF (fun hc => v_fa fa33_5 rfl (by first | exact gve hc rfl | exact gve (and_l hc) rfl | exact gve (and_l (and_l hc)) rfl | rfl)) ?_
  refine s_gval rfl rfl rfl wF (fun hc => v_load1 rfl (by first | exact gve hc rfl | exact gve (and_l hc) rfl | exact gve (and_l (and_l hc)) rfl | rfl) Try.underlying29 rfl (cx.cell 0 rfl rfl)) ?_
  refine s_gval rfl rfl rfl wF (fun hc => v_b2sR rfl Try.underlying29 Try.underlying5 Try.underlying9 (RepB.mono (fun _ h => h) (fun b hb => cx.ext.block b hb) hB2) (by first | exact gve hc rfl | exact gve (and_l hc) rfl | exact gve (and_l (and_l hc)) rfl | rfl)) ?_
  refine s_gval rfl rfl rfl wF (fun hc => v_strNe rfl (by first | exact gve hc rfl | exact gve (and_l hc) rfl | exact gve (and_l (and_l hc)) rfl | rfl) (by first | exact gve hc rfl | exact gve (and_l hc) rfl | exact gve (and_l (and_l hc)) rfl | rfl)) ?_
  refine s_val rfl rfl (v_or rfl rfl rfl rfl) ?_
  refine s_val rfl rfl (v_move rfl rfl) ?_
  refine s_gval rfl rfl rfl wF (fun hc => v_fa fa33_6 rfl (by first | exact gve hc rfl | exact gve (and_l hc) rfl | exact gve (and_l (and_l hc)) rfl | rfl)) ?_
  refine s_gval rfl rfl rfl wF (fun hc => v_load1 rfl (by first | exact gve hc rfl | exact gve (and_l hc) rfl | exact gve (and_l (and_l hc)) rfl | rfl) Try.underlying30 rfl (cx.cell 1 rfl rfl)) ?_
  refine s_gval rfl rfl rfl wF (fun hc => v_lenSlice rfl (by first | exact gve hc rfl | exact gve (and_l hc) rfl | exact gve (and_l (and_l hc)) rfl | rfl) Try.underlying30) ?_
  refine s_gval rfl rfl rfl wF (fun hc => v_fa fa33_6 rfl (by first | exact gve hc rfl | exact gve (and_l hc) rfl | exact gve (and_l (and_l hc)) rfl | rfl)) ?_
  refine s_gval rfl rfl rfl wF (fun hc => v_load1 rfl (by first | exact gve hc rfl | exact gve (and_l hc) rfl | exact gve (and_l (and_l hc)) rfl | rfl) Try.underlying30 rfl (cx.cell 0 rfl rfl)) ?_
  refine s_gval rfl rfl rfl wF (fun hc => v_lenSlice rfl (by first | exact gve hc rfl | exact gve (and_l hc) rfl | exact gve (and_l (and_l hc)) rfl | rfl) Try.underlying30) ?_
  refine s_gval rfl rfl rfl wF (fun hc => v_cmp rfl (by first | exact gve hc rfl | exact gve (and_l hc) rfl | exact gve (and_l (and_l hc)) rfl | rfl) (by first | exact gve hc rfl | exact gve (and_l hc) rfl | exact gve (and_l (and_l hc)) rfl | rfl) rfl) ?_
  refine s_val rfl rfl (v_or rfl rfl rfl rfl) ?_
  refine s_val rfl rfl (v_move rfl rfl) ?_
  refine s_gval rfl rfl rfl wF (fun hc => v_fa fa33_7 rfl (by first | exact gve hc rfl | exact gve (and_l hc) rfl | exact gve (and_l (and_l hc)) rfl | rfl)) ?_
  refine s_gval rfl rfl rfl wF (fun hc => v_load1 rfl (by first | exact gve hc rfl | exact gve (and_l hc) rfl | exact gve (and_l (and_l hc)) rfl | rfl) Try.underlying31 rfl (cx.cell 1 rfl rfl)) ?_
  refine s_gval rfl rfl rfl wF (fun hc => v_lenSlice rfl (by first | exact gve hc rfl | exact gve (and_l hc) rfl | exact gve (and_l (and_l hc)) rfl | rfl) Try.underlying31) ?_
  refine s_gval rfl rfl rfl wF (fun hc => v_fa fa33_7 rfl (by first | exact gve hc rfl | exact gve (and_l hc) rfl | exact gve (and_l (and_l hc)) rfl | rfl)) ?_
  refine s_gval rfl rfl rfl wF (fun hc => v_load1 rfl (by first | exact gve hc rfl | exact gve (and_l hc) rfl | exact gve (and_l (and_l hc)) rfl | rfl) Try.underlying31 rfl (cx.cell 0 rfl rfl)) ?_
  refine s_gval rfl rfl rfl wF (fun hc => v_lenSlice rfl (by first | exact gve hc rfl | exact gve (and_l hc) rfl | exact gve (and_l (and_l hc)) rfl | rfl) Try.underlying31) ?_
  refine s_gval rfl rfl rfl wF (fun hc => v_cmp rfl (by first | exact gve hc rfl | exact gve (and_l hc) rfl | exact gve (and_l (and_l hc)) rfl | rfl) (by first | exact gve hc rfl | exact gve (and_l hc) rfl | exact gve (and_l (and_l hc)) rfl | rfl) rfl) ?_
  refine s_val rfl rfl (v_or rfl rfl rfl rfl) ?_
  refine wpList_nil ?_
  refine c_split rfl (fun hc66 => ?_) (fun hc66 => ?_)
  · skip
    refine wp_seq ?_
    refine wp_region_lit ?_
    refine s_val rfl rfl (v_assign rfl rfl) ?_
    refine wpList_nil ?_
    refine wp_ret ?_
    refine ret_tmp Try.results22 rfl ?_
    refine ⟨cx.ext, _, rfl, ?_⟩
    constructor
    · intro h; cases h
    · intro h
      exfalso
      subst h
      simp at hc66
  have hq := hc66
  simp only [Bool.or_eq_false_iff, Bool.not_eq_false', decide_eq_false_iff_not, bne_eq_false_iff_eq, Bool.and_eq_true, decide_eq_true_eq, beq_iff_eq, strB_inj] at hq
  have hsc : v.sc = u.sc := by
    rw [sc_iff]
    simp_all
  have hby : v.bytes = u.bytes := by simp_all
  have hll : v.list.length = u.list.length := by
    have : (v.list.length : Int) = u.list.length := by simp_all
    omega
  have hlf : v.fields.length = u.fields.length := by
    have : (v.fields.length : Int) = u.fields.length := by simp_all
    omega
  refine wp_skip ?_
  refine wp_seq ?_
  refine wp_seq ?_
  refine wp_region_lit ?_
  refine s_val rfl rfl (v_assign rfl rfl) ?_
  refine wpList_nil ?_
  refine wp_block ?_
  refine w_loop (fun k f w1 => ∃ i : Nat, k + i = v.list.length ∧ f 2 = .pointer (some ⟨b2, 0, none⟩) ∧ f 3 = .pointer (some ⟨b3, 0, none⟩) ∧ f 5 = .int .i64 i ∧ Ctx w0 w1 [(b3, .cells (vrow u.sc bs2 (.slice la2 u.list.length lc2) (.slice fa2 u.fields.length fc2)).toArray 33), (b2, .cells (vrow v.sc bs1 (.slice la1 v.list.length lc1) (.slice fa1 v.fields.length fc1)).toArray 33)] ∧ ∀ (j : Nat) (x y : V), j < i → v.list[j]? = some x → u.list[j]? = some y → x = y) (v.list.length) ?_ ?_
  · skip
    exact ⟨0, by omega, rfl, rfl, rfl, cx, fun j x y hj => by omega⟩
  intro gk4 f w hJ
  obtain ⟨i, hki, hs2, hs3, hs5, cx, hall⟩ := hJ
  refine wp_seq ?_
  refine wp_seq ?_
  refine wp_region_lit ?_
  refine s_val rfl rfl (v_move rfl hs5) ?_
  refine s_val rfl rfl (v_fa fa33_6 rfl hs2) ?_
  refine s_val rfl rfl (v_load1 rfl rfl Try.underlying30 rfl (cx.cell 1 rfl rfl)) ?_
  refine s_val rfl rfl (v_lenSlice rfl rfl Try.underlying30) ?_
  refine s_val rfl rfl (v_cmp rfl rfl rfl rfl) ?_
  refine wpList_nil ?_
  refine c_split rfl (fun hc71 => ?_) (fun hc71 => ?_)
  · skip
    try simp only [bsl] at hc71
    have hge1 : v.list[i]? = some v.list[i] := List.getElem?_eq_getElem (by omega)
    have hge2 : u.list[i]? = some u.list[i] := List.getElem?_eq_getElem (by omega)
    obtain ⟨x1, hx1, hv1⟩ := hl1 i _ hge1
    obtain ⟨x2, hx2, hv2⟩ := hl2 i _ hge2
    obtain rfl := ha1 (by omega)
    obtain rfl := ha2 (by omega)
    obtain ⟨b84, hb84⟩ := bool_of (v.list[i] = u.list[i])
    refine wp_skip ?_
    refine wp_seq ?_
    refine wp_block ?_
    refine wp_seq ?_
    refine w_quiet cx mixed (by kernel_rfl) ?_
    refine q_val rfl rfl (fun w cx hwQ => v_fa fa33_6 rfl hs2) ?_
    refine q_val rfl rfl (fun w cx hwQ => v_load1 rfl rfl Try.underlying30 rfl (cx.cell 1 rfl rfl)) ?_
    refine q_val rfl rfl (fun w cx hwQ => v_move rfl hs5) ?_
    refine q_val rfl rfl (fun w cx hwQ => v_ia Try.underlying30 sz33 rfl rfl rfl (by omega) (by omega)) ?_
    refine q_val rfl rfl (fun w cx hwQ => v_load rfl rfl Try.underlying33 rfl sz33 (hx1.up cx.ext) hv1.len) ?_
    refine q_val rfl rfl (fun w cx hwQ => v_fa fa33_6 rfl hs3) ?_
    refine q_val rfl rfl (fun w cx hwQ => v_load1 rfl rfl Try.underlying30 rfl (cx.cell 0 rfl rfl)) ?_
    refine q_val rfl rfl (fun w cx hwQ => v_move rfl hs5) ?_
    refine q_val rfl rfl (fun w cx hwQ => v_ia Try.underlying30 sz33 rfl rfl rfl (by omega) (by omega)) ?_
    refine q_val rfl rfl (fun w cx hwQ => v_load rfl rfl Try.underlying33 rfl sz33 (hx2.up cx.ext) hv2.len) ?_
    refine q_call rfl rfl (runs_fn Try.func22 rfl rfl rfl rfl) (fun w cx hwQ => (ihl _ (List.getElem_mem _) _ _ _ _ (hv1.up cx.ext) (hv2.up cx.ext) (hfin.elem (List.getElem_mem _)) (hfin2.elem (List.getElem_mem _))).det fun b hb => Bool.eq_iff_iff.2 (hb.trans hb84.symm)) ?_
    refine q_val rfl rfl (fun w cx hwQ => v_not rfl rfl) ?_
    refine q_nil ?_; rintro w ⟨cx, hwQ6⟩
    refine c_split rfl (fun hc85 => ?_) (fun hc85 => ?_)
    · skip
      refine wp_seq ?_
      refine wp_region_lit ?_
      refine s_val rfl rfl (v_assign rfl rfl) ?_
      refine wpList_nil ?_
      refine wp_ret ?_
      refine ret_tmp Try.results22 rfl ?_
      refine ⟨cx.ext, _, rfl, ?_⟩
      constructor
      · intro h; cases h
      · intro h
        exfalso
        subst h
        have := hb84.2 rfl
        rw [this] at hc85
        cases hc85
    refine wp_skip ?_
    refine wp_region_lit ?_
    refine s_val rfl rfl (v_move rfl hs5) ?_
    refine s_val rfl rfl (v_add rfl rfl rfl (by omega) (by omega)) ?_
    refine s_val rfl rfl (v_assign rfl rfl) ?_
    refine wpList_nil ?_
    refine ⟨gk4 - 1, _, by omega, rfl, i + 1, by omega, hs2, hs3, rfl, cx, fun j x y hj hx hy => ?_⟩
    rcases Nat.lt_or_ge j i with h | h
    · exact hall j x y h hx hy
    · obtain rfl : j = i := by omega
      rw [hge1] at hx
      rw [hge2] at hy
      obtain rfl := Option.some.inj hx
      obtain rfl := Option.some.inj hy
      refine hb84.1 ?_
      cases b84
      · cases hc85
      · rfl
  try simp only [bsl] at hc71
  refine wp_exit ?_
  refine wp_seq ?_
  refine wp_seq ?_
  refine wp_region_lit ?_
  refine s_val rfl rfl (v_assign rfl rfl) ?_
  refine wpList_nil ?_
  refine wp_block ?_
  refine w_loop (fun k f w1 => ∃ i : Nat, k + i = v.fields.length ∧ f 2 = .pointer (some ⟨b2, 0, none⟩) ∧ f 3 = .pointer (some ⟨b3, 0, none⟩) ∧ f 6 = .int .i64 i ∧ Ctx w0 w1 [(b3, .cells (vrow u.sc bs2 (.slice la2 u.list.length lc2) (.slice fa2 u.fields.length fc2)).toArray 33), (b2, .cells (vrow v.sc bs1 (.slice la1 v.list.length lc1) (.slice fa1 v.fields.length fc1)).toArray 33)] ∧ ∀ (j : Nat) (x y : ByteArray × V), j < i → v.fields[j]? = some x → u.fields[j]? = some y → x = y) (v.fields.length) ?_ ?_
  · skip
    exact ⟨0, by omega, hs2, hs3, rfl, cx, fun j x y hj => by omega⟩
  intro gk9 f w hJ
  obtain ⟨i, hki, hs2, hs3, hs6, cx, hall2⟩ := hJ
  refine wp_seq ?_
  refine wp_seq ?_
  refine wp_region_lit ?_
  refine s_val rfl rfl (v_move rfl hs6) ?_
  refine s_val rfl rfl (v_fa fa33_7 rfl hs2) ?_
  refine s_val rfl rfl (v_load1 rfl rfl Try.underlying31 rfl (cx.cell 1 rfl rfl)) ?_
  refine s_val rfl rfl (v_lenSlice rfl rfl Try.underlying31) ?_
  refine s_val rfl rfl (v_cmp rfl rfl rfl rfl) ?_
  refine wpList_nil ?_
  refine c_split rfl (fun hc90 => ?_) (fun hc90 => ?_)
  · skip
    try simp only [bsl] at hc90
    have hge1 : v.fields[i]? = some v.fields[i] := List.getElem?_eq_getElem (by omega)
    have hge2 : u.fields[i]? = some u.fields[i] := List.getElem?_eq_getElem (by omega)
    obtain ⟨x1, hx1, hv1⟩ := hf1 i _ hge1
    obtain ⟨x2, hx2, hv2⟩ := hf2 i _ hge2
    obtain rfl := hg1 (by omega)
    obtain rfl := hg2 (by omega)
    obtain ⟨y1, y2, y3, rfl, _⟩ := hv1.open
    obtain ⟨z1, z2, z3, rfl, _⟩ := hv2.open
    obtain ⟨b119, hb119⟩ := bool_of (v.fields[i].2 = u.fields[i].2)
    refine wp_skip ?_
    refine wp_seq ?_
    refine wp_block ?_
    refine wp_seq ?_
    refine w_quiet cx mixed (by kernel_rfl) ?_
    refine q_val rfl rfl (fun w cx hwQ => v_fa fa33_7 rfl hs2) ?_
    refine q_val rfl rfl (fun w cx hwQ => v_load1 rfl rfl Try.underlying31 rfl (cx.cell 1 rfl rfl)) ?_
    refine q_val rfl rfl (fun w cx hwQ => v_move rfl hs6) ?_
    refine q_val rfl rfl (fun w cx hwQ => v_ia Try.underlying31 sz77 rfl rfl rfl (by omega) (by omega)) ?_
    refine q_val rfl rfl (fun w cx hwQ => v_fa fa77_0 rfl rfl) ?_
    refine q_val rfl rfl (fun w cx hwQ => v_load1 rfl rfl Try.underlying9 rfl ((hx1.up cx.ext).cell 0 rfl)) ?_
    refine q_val rfl rfl (fun w cx hwQ => v_fa fa33_7 rfl hs3) ?_
    refine q_val rfl rfl (fun w cx hwQ => v_load1 rfl rfl Try.underlying31 rfl (cx.cell 0 rfl rfl)) ?_
    refine q_val rfl rfl (fun w cx hwQ => v_move rfl hs6) ?_
    refine q_val rfl rfl (fun w cx hwQ => v_ia Try.underlying31 sz77 rfl rfl rfl (by omega) (by omega)) ?_
    refine q_val rfl rfl (fun w cx hwQ => v_fa fa77_0 rfl rfl) ?_
    refine q_val rfl rfl (fun w cx hwQ => v_load1 rfl rfl Try.underlying9 rfl ((hx2.up cx.ext).cell 0 rfl)) ?_
    refine q_val rfl rfl (fun w cx hwQ => v_strNe rfl rfl rfl) ?_
    refine q_val rfl rfl (fun w cx hwQ => v_move rfl rfl) ?_
    refine q_gval rfl rfl rfl wF (fun hc w cx hwQ => v_fa fa33_7 rfl hs2) ?_
    refine q_gval rfl rfl rfl wF (fun hc w cx hwQ => v_load1 rfl (by first | exact gve hc rfl | exact gve (and_l hc) rfl | exact gve (and_l (and_l hc)) rfl | rfl) Try.underlying31 rfl (cx.cell 1 rfl rfl)) ?_
    refine q_gval rfl rfl rfl wF (fun hc w cx hwQ => v_move rfl hs6) ?_
    refine q_gval rfl rfl rfl wF (fun hc w cx hwQ => v_ia Try.underlying31 sz77 rfl (by first | exact gve hc rfl | exact gve (and_l hc) rfl | exact gve (and_l (and_l hc)) rfl | rfl) (by first | exact gve hc rfl | exact gve (and_l hc) rfl | exact gve (and_l (and_l hc)) rfl | rfl) (by omega) (by omega)) ?_
    refine q_gval rfl rfl rfl wF (fun hc w cx hwQ => v_fa fa77_1 rfl (by first | exact gve hc rfl | exact gve (and_l hc) rfl | exact gve (and_l (and_l hc)) rfl | rfl)) ?_
    refine q_gval rfl rfl rfl wF (fun hc w cx hwQ => v_load rfl (by first | exact gve hc rfl | exact gve (and_l hc) rfl | exact gve (and_l (and_l hc)) rfl | rfl) Try.underlying33 rfl sz33 ((hx1.up cx.ext).rv 1 rfl) rfl) ?_
    refine q_gval rfl rfl rfl wF (fun hc w cx hwQ => v_fa fa33_7 rfl hs3) ?_
    refine q_gval rfl rfl rfl wF (fun hc w cx hwQ => v_load1 rfl (by first | exact gve hc rfl | exact gve (and_l hc) rfl | exact gve (and_l (and_l hc)) rfl | rfl) Try.underlying31 rfl (cx.cell 0 rfl rfl)) ?_
    refine q_gval rfl rfl rfl wF (fun hc w cx hwQ => v_move rfl hs6) ?_
    refine q_gval rfl rfl rfl wF (fun hc w cx hwQ => v_ia Try.underlying31 sz77 rfl (by first | exact gve hc rfl | exact gve (and_l hc) rfl | exact gve (and_l (and_l hc)) rfl | rfl) (by first | exact gve hc rfl | exact gve (and_l hc) rfl | exact gve (and_l (and_l hc)) rfl | rfl) (by omega) (by omega)) ?_
    refine q_gval rfl rfl rfl wF (fun hc w cx hwQ => v_fa fa77_1 rfl (by first | exact gve hc rfl | exact gve (and_l hc) rfl | exact gve (and_l (and_l hc)) rfl | rfl)) ?_
    refine q_gval rfl rfl rfl wF (fun hc w cx hwQ => v_load rfl (by first | exact gve hc rfl | exact gve (and_l hc) rfl | exact gve (and_l (and_l hc)) rfl | rfl) Try.underlying33 rfl sz33 ((hx2.up cx.ext).rv 1 rfl) rfl) ?_
    refine q_gcall rfl rfl rfl wF (fun hc => runs_fn Try.func22 rfl rfl rfl (cons_eq (by first | exact gve hc rfl | exact gve (and_l hc) rfl | exact gve (and_l (and_l hc)) rfl | rfl) (cons_eq (by first | exact gve hc rfl | exact gve (and_l hc) rfl | exact gve (and_l (and_l hc)) rfl | rfl) rfl))) (fun hc w cx hwQ => (ihf _ (List.getElem_mem _) _ _ _ _ (hv1.up cx.ext) (hv2.up cx.ext) (hfin.field (List.getElem_mem _)).2 (hfin2.field (List.getElem_mem _)).2).det fun b hb => Bool.eq_iff_iff.2 (hb.trans hb119.symm)) ?_
    refine q_gval rfl rfl rfl wF (fun hc w cx hwQ => v_not rfl (by first | exact gve hc rfl | exact gve (and_l hc) rfl | exact gve (and_l (and_l hc)) rfl | rfl)) ?_
    refine q_val rfl rfl (fun w cx hwQ => v_or rfl rfl rfl rfl) ?_
    refine q_nil ?_; rintro w ⟨cx, hwQ11⟩
    refine c_split rfl (fun hc121 => ?_) (fun hc121 => ?_)
    · skip
      refine wp_seq ?_
      refine wp_region_lit ?_
      refine s_val rfl rfl (v_assign rfl rfl) ?_
      refine wpList_nil ?_
      refine wp_ret ?_
      refine ret_tmp Try.results22 rfl ?_
      refine ⟨cx.ext, _, rfl, ?_⟩
      constructor
      · intro h; cases h
      · intro h
        exfalso
        subst h
        have := hb119.2 rfl
        rw [this] at hc121
        simp at hc121
    refine wp_skip ?_
    refine wp_region_lit ?_
    refine s_val rfl rfl (v_move rfl hs6) ?_
    refine s_val rfl rfl (v_add rfl rfl rfl (by omega) (by omega)) ?_
    refine s_val rfl rfl (v_assign rfl rfl) ?_
    refine wpList_nil ?_
    refine ⟨gk9 - 1, _, by omega, rfl, i + 1, by omega, hs2, hs3, rfl, cx, fun j x y hj hx hy => ?_⟩
    rcases Nat.lt_or_ge j i with h | h
    · exact hall2 j x y h hx hy
    · obtain rfl : j = i := by omega
      rw [hge1] at hx
      rw [hge2] at hy
      obtain rfl := Option.some.inj hx
      obtain rfl := Option.some.inj hy
      simp only [Bool.or_eq_false_iff, Bool.not_eq_false', decide_eq_true_eq] at hc121
      exact Prod.ext hc121.1 (hb119.1 hc121.2)
  try simp only [bsl] at hc90
  refine wp_exit ?_
  refine wp_seq ?_
  refine wp_region_lit ?_
  refine s_val rfl rfl (v_assign rfl rfl) ?_
  refine wpList_nil ?_
  refine wp_ret ?_
  refine ret_tmp Try.results22 rfl ?_
  refine ⟨cx.ext, _, rfl, ?_⟩
  constructor
  · intro _
    rw [v_iff]
    refine ⟨hsc, hby, ?_, ?_⟩
    · refine List.ext_getElem hll fun j hj1 hj2 => ?_
      exact hall j _ _ (by omega) (List.getElem?_eq_getElem hj1) (List.getElem?_eq_getElem hj2)
    · refine List.ext_getElem hlf fun j hj1 hj2 => ?_
      exact hall2 j _ _ (by omega) (List.getElem?_eq_getElem hj1) (List.getElem?_eq_getElem hj2)
  · intro _; rfl
end Go.Proofs.Ytmkihcdcgkdilaa
end
section
namespace Go.Proofs.Ytmkihcdcgkdilaa
open Go Go.Dk Go.RowKit
set_option linter.unusedSimpArgs false
set_option linter.unusedVariables false
attribute [local irreducible] Go.wpList Go.Code.wp Go.bodyPost Go.wpStill Go.wpQuiet
set_option maxRecDepth 10000 in
set_option maxHeartbeats 1600000 in
theorem c79 (A : Nat → Prop) (fs : Fs) (s : Value) (w0 : World) (hA : ∀ b, A b → b < w0.heap.size) (hv : RepF A w0 s fs) (hl : fs.length ≤ 1048576) : Fc Try.prog 79 [s] w0 (fun x w' => ∃ rs, w'.ownsRow w0.heap.size 77 14 x (sortF fs).length rs.flatten ∧ RowsF A w' (sortF fs) rs) := by
  obtain ⟨fb, fo, hsl, hreps⟩ := hv
  obtain ⟨fa, fc, rfl, hfa⟩ := hsl.form
  have hget := fun i kv h => RepFs.get fs fo i kv hreps h
  refine ret_enter Try.func79 rfl Try.ntmps79 rfl ?_
  have cx := Ctx.start w0
  refine wp_seq ?_
  refine wp_region_lit ?_
  refine s_val rfl rfl (v_assign rfl rfl) ?_
  refine wpList_nil ?_
  refine wp_seq ?_
  refine wp_region_lit ?_
  refine s_val rfl rfl (v_assign rfl rfl) ?_
  refine wpList_nil ?_
  refine wp_seq ?_
  refine wp_seq ?_
  refine wp_region_lit ?_
  replace cx := cx.nilRow 77 14
  refine s_val rfl rfl (v_assign rfl rfl) ?_
  refine wpList_nil ?_
  refine wp_block ?_
  refine w_loop (fun k f w1 => ∃ (i : Nat) (o : Fs) (x : Value) (rs : Els), k + i = fs.length ∧ f 0 = .slice fa fs.length fc ∧ f 4 = .int .i64 i ∧ f 3 = x ∧ o = (fs.take i).foldl (fun o kv => insF kv o) [] ∧ Cxr w0 w1 [] [⟨77, 14, x, o.length, rs.flatten⟩] ∧ RowsF A w0 o rs) (fs.length) ?_ ?_
  · skip
    exact ⟨0, [], _, [], by omega, rfl, rfl, rfl, rfl, cx, trivial⟩
  intro gk3 f w hJ
  obtain ⟨i, o, x, rs, hki, hs0, hs4, hs3, ho, cx, hrows⟩ := hJ
  refine wp_seq ?_
  refine wp_seq ?_
  refine wp_region_lit ?_
  refine s_val rfl rfl (v_move rfl hs4) ?_
  refine s_val rfl rfl (v_move rfl hs0) ?_
  refine s_val rfl rfl (v_lenSlice rfl rfl Try.underlying31) ?_
  refine s_val rfl rfl (v_cmp rfl rfl rfl rfl) ?_
  refine wpList_nil ?_
  refine c_split rfl (fun hc10 => ?_) (fun hc10 => ?_)
  · skip
    try simp only [bsl] at hc10
    obtain rfl := hfa (by omega)
    have hge : fs[i]? = some fs[i] := List.getElem?_eq_getElem (by omega)
    obtain ⟨r, hr, hrv⟩ := hget i fs[i] hge
    have hlz : (Value.string fs[i].1 :: r).length = 14 := by rw [List.length_cons, hrv.len]
    have hol : o.length = i := by
      rw [ho]
      have h1 := (fold_perm (fs.take i) []).length_eq
      rw [List.nil_append, List.length_take, Nat.min_eq_left (by omega)] at h1
      exact h1
    obtain ⟨xa, xc, rfl, hxg⟩ := cx.ownRow
    obtain ⟨g, hg⟩ : ∃ g : Nat, 0 < o.length → xa = some ⟨g, 0, none⟩ := by
      rcases Nat.eq_zero_or_pos o.length with h | h
      · exact ⟨0, fun h' => by omega⟩
      · obtain ⟨g, h1, _⟩ := hxg h
        exact ⟨g, fun _ => h1⟩
    refine wp_skip ?_
    refine wp_seq ?_
    refine wp_block ?_
    refine wp_seq ?_
    refine wp_region_lit ?_
    refine s_val rfl rfl (v_assign rfl rfl) ?_
    refine wpList_nil ?_
    refine wp_seq ?_
    refine wp_block ?_
    refine w_loop (fun k f w1 => ∃ j : Nat, k + j = o.length ∧ f 0 = .slice (some ⟨fb, fo, none⟩) fs.length fc ∧ f 4 = .int .i64 i ∧ f 3 = .slice xa o.length xc ∧ f 5 = .int .i64 j ∧ (∀ (j' : Nat) (x : ByteArray × V), j' < j → o[j']? = some x → kc x.1 fs[i].1 ≤ 0) ∧ Cxr w0 w1 [] [⟨77, 14, .slice xa o.length xc, o.length, rs.flatten⟩]) (o.length) ?_ ?_
    · skip
      exact ⟨0, by omega, hs0, hs4, hs3, rfl, fun j' x h => by omega, cx⟩
    intro gk6 f w hJ
    obtain ⟨j, hkj0, hs0, hs4, hs3, hs5, hall, cx⟩ := hJ
    have hjo : j ≤ o.length := by omega
    obtain ⟨kj, hkj⟩ : ∃ kj : ByteArray, ∀ x, o[j]? = some x → x.1 = kj := by
      cases h : o[j]? with
      | none => exact ⟨ByteArray.empty, fun x h => by cases h⟩
      | some y => exact ⟨y.1, fun x h => by rw [Option.some.inj h]⟩
    have hrj : j < o.length → ∃ l, rs[j]? = some (.string kj :: l) := fun h => by
      have h1 : o[j]? = some o[j] := List.getElem?_eq_getElem h
      obtain ⟨l, h2, _⟩ := RowsF.at _ _ j _ hrows h1
      rw [hkj _ h1] at h2
      exact ⟨l, h2⟩
    refine wp_seq ?_
    refine wp_seq ?_
    refine w_quiet cx mixed (by kernel_rfl) ?_
    refine q_val rfl rfl (fun w cx hwQ => v_move rfl hs5) ?_
    refine q_val rfl rfl (fun w cx hwQ => v_move rfl hs3) ?_
    refine q_val rfl rfl (fun w cx hwQ => v_lenSlice rfl rfl Try.underlying31) ?_
    refine q_val rfl rfl (fun w cx hwQ => v_cmp rfl rfl rfl rfl) ?_
    refine q_val rfl rfl (fun w cx hwQ => v_move rfl rfl) ?_
    refine q_gval rfl rfl rfl wT (fun hc w cx hwQ => v_move rfl hs3) ?_
    refine q_gval rfl rfl rfl wT (fun hc w cx hwQ => v_move rfl hs5) ?_
    refine q_gval rfl rfl rfl wT (fun hc w cx hwQ => v_ia (k := 0) Try.underlying31 sz77 rfl ((gve hc rfl).trans (congrArg (fun z => Value.slice z o.length xc) (hg (by have := of_decide_eq_true hc; omega)))) (gve hc rfl) (by omega) (by have := of_decide_eq_true hc; omega)) ?_
    refine q_gval rfl rfl rfl wT (fun hc w cx hwQ => v_fa fa77_0 rfl (by first | exact gve hc rfl | exact gve (and_l hc) rfl | exact gve (and_l (and_l hc)) rfl | rfl)) ?_
    refine q_gval rfl rfl rfl wT (fun hc w cx hwQ => v_load1 rfl (gve hc rfl) Try.underlying9 rfl (by have h0 := of_decide_eq_true hc; have h1 := hg (by omega); subst h1; obtain ⟨l, hl1⟩ := hrj (by omega); exact (RowAt.flat (A := A) (fs := o) (cx.rowOf (by omega)) (rows14 hrows) hl1).cell 0 rfl)) ?_
    refine q_gval rfl rfl rfl wT (fun hc w cx hwQ => v_move rfl hs0) ?_
    refine q_gval rfl rfl rfl wT (fun hc w cx hwQ => v_move rfl hs4) ?_
    refine q_gval rfl rfl rfl wT (fun hc w cx hwQ => v_ia Try.underlying31 sz77 rfl (gve hc rfl) (gve hc rfl) (by omega) (by omega)) ?_
    refine q_gval rfl rfl rfl wT (fun hc w cx hwQ => v_fa fa77_0 rfl (by first | exact gve hc rfl | exact gve (and_l hc) rfl | exact gve (and_l (and_l hc)) rfl | rfl)) ?_
    refine q_gval rfl rfl rfl wT (fun hc w cx hwQ => v_load1 rfl (gve hc rfl) Try.underlying9 rfl ((hr.up cx.ext).cell 0 rfl)) ?_
    refine q_gval rfl rfl rfl wT (fun hc w cx hwQ => v_strLe rfl (gve hc rfl) (gve hc rfl)) ?_
    refine q_val rfl rfl (fun w cx hwQ => v_and rfl rfl rfl rfl) ?_
    refine q_nil ?_; rintro w ⟨cx, hwQ6⟩
    refine c_split rfl (fun hc29 => ?_) (fun hc29 => ?_)
    · skip
      try simp only [bsl] at hc29
      obtain ⟨hcj, hcl⟩ := hc29
      refine wp_skip ?_
      refine wp_block ?_
      refine wp_region_lit ?_
      refine s_val rfl rfl (v_move rfl hs5) ?_
      refine s_val rfl rfl (v_add rfl rfl rfl (by omega) (by omega)) ?_
      refine s_val rfl rfl (v_assign rfl rfl) ?_
      refine wpList_nil ?_
      refine ⟨o.length - (j + 1), _, by omega, rfl, j + 1, by omega, hs0, hs4, hs3, rfl, fun j' x hj hx => ?_, cx⟩
      rcases Nat.lt_or_ge j' j with h | h
      · exact hall j' x h hx
      · obtain rfl : j' = j := by omega
        rw [hkj x hx]; exact hcl
    try simp only [bsl] at hc29
    have hins : insF fs[i] o = o.take j ++ fs[i] :: o.drop j := insF_at o j hjo hall fun y hy => by
      have hjl := (List.getElem?_eq_some_iff.1 hy).1
      rw [hkj y hy]
      rcases hc29 with h | h
      · omega
      · exact h
    have hrl := (RowsF.length _ _ hrows).2
    obtain ⟨hft, hfd⟩ := flatk hrows j hjo
    refine wp_exit ?_
    refine wp_seq ?_
    refine wp_region_lit ?_
    refine s_bsl0 cx Try.underlying31 sz77 rfl rfl rfl ?_; intro b32 w cx hb32 hw32
    replace cx := cx.toRow (k := 0) (size := 14) (cs := []) rfl (by decide)
    obtain ⟨xa1, xc1, hxe1, hxc1, hsrc1, _⟩ := src_own (k := j) (n := o.length) (v := .slice xa o.length xc) (rs := rs) (e := 77) (B := w0.heap.size) (w := w) (cx.rows ⟨77, 14, .slice xa o.length xc, o.length, rs.flatten⟩ (by simp)) (rows14 hrows) hrl hjo
    simp only [Value.slice.injEq, true_and] at hxe1
    obtain ⟨rfl, rfl⟩ := hxe1
    refine s_val rfl rfl (v_move rfl hs3) ?_
    refine s_val rfl rfl (v_move rfl hs5) ?_
    refine s_val rfl rfl (v_slHi el31 es31 rfl rfl rfl (by omega) (by omega)) ?_
    refine s_appendS cx ei77 Try.underlying31 rfl rfl rfl rfl rfl hsrc1 hft (RowsF.one1 (RowsF.take _ _ j hrows)) (by omega) ?_; intro v36 w cx hgr36 hnw36
    refine s_val rfl rfl (v_assign rfl rfl) ?_
    refine wpList_nil ?_
    refine wp_seq ?_
    refine wp_region_lit ?_
    refine s_val rfl rfl (v_move rfl rfl) ?_
    refine s_val rfl rfl (v_move rfl hs0) ?_
    refine s_val rfl rfl (v_move rfl hs4) ?_
    refine s_val rfl rfl (v_ia Try.underlying31 sz77 rfl rfl rfl (by omega) (by omega)) ?_
    refine s_val rfl rfl (v_load rfl rfl Try.underlying77 rfl sz77 (hr.up cx.ext) hlz) ?_
    refine s_bsl1 cx Try.underlying31 sz77 z77 rfl rfl rfl rfl rfl rfl rfl hlz ?_; intro b42 w cx hb42 hw42
    refine s_appendG (m := 1) cx ei77 Try.underlying31 rfl rfl rfl rfl rfl (cx.row 0 rfl) hlz (by exact hrv.one) (by omega) ?_; intro v43 w cx hgr43 hnw43
    replace cx := cx.drop 1
    refine s_val rfl rfl (v_assign rfl rfl) ?_
    refine wpList_nil ?_
    refine wp_seq ?_
    refine wp_region_lit ?_
    obtain ⟨xa2, xc2, hxe2, _, _, hsrc2⟩ := src_own (k := j) (n := o.length) (v := .slice xa o.length xc) (rs := rs) (e := 77) (B := w0.heap.size) (w := w) (cx.rows ⟨77, 14, .slice xa o.length xc, o.length, rs.flatten⟩ (by simp)) (rows14 hrows) hrl hjo
    simp only [Value.slice.injEq, true_and] at hxe2
    obtain ⟨rfl, rfl⟩ := hxe2
    refine s_val rfl rfl (v_move rfl rfl) ?_
    refine s_val rfl rfl (v_move rfl hs3) ?_
    refine s_val rfl rfl (v_move rfl hs5) ?_
    refine s_val rfl rfl (v_slLo el31 es31 rfl rfl rfl (by omega) (by omega)) ?_
    refine s_appendS cx ei77 Try.underlying31 rfl rfl rfl rfl rfl hsrc2 hfd (RowsF.one1 (RowsF.drop _ _ j hrows)) (by omega) ?_; intro v48 w cx hgr48 hnw48
    have hfl : (rs.take j).flatten ++ (Value.string fs[i].1 :: r) ++ (rs.drop j).flatten = (rs.take j ++ (Value.string fs[i].1 :: r) :: rs.drop j).flatten := by simp
    have hnl : 0 + j + 1 + (o.length - j) = (insF fs[i] o).length := by rw [hins]; simp; omega
    rw [List.nil_append, hfl, hnl] at cx
    refine s_val rfl rfl (v_assign rfl rfl) ?_
    refine wpList_nil ?_
    refine wp_region_lit ?_
    refine s_val rfl rfl (v_move rfl rfl) ?_
    refine s_val rfl rfl (v_assign rfl rfl) ?_
    refine wpList_nil ?_
    refine wp_region_lit ?_
    refine s_val rfl rfl (v_move rfl hs4) ?_
    refine s_val rfl rfl (v_add rfl rfl rfl (by omega) (by omega)) ?_
    refine s_val rfl rfl (v_assign rfl rfl) ?_
    refine wpList_nil ?_
    refine ⟨gk3 - 1, _, by omega, rfl, i + 1, insF fs[i] o, v48, _, by omega, hs0, rfl, rfl, ?_, cx.first, ?_⟩
    · rw [List.take_succ_eq_append_getElem (by omega), List.foldl_append, ← ho]; rfl
    · rw [hins]
      exact RowsF.append _ _ _ _ (RowsF.take _ _ j hrows) ⟨⟨r, rfl, hrv⟩, RowsF.drop _ _ j hrows⟩
  try simp only [bsl] at hc10
  refine wp_exit ?_
  refine wp_seq ?_
  refine wp_region_lit ?_
  refine s_val rfl rfl (v_move rfl hs3) ?_
  refine s_val rfl rfl (v_assign rfl rfl) ?_
  refine wpList_nil ?_
  refine wp_ret ?_
  refine ret_tmp Try.results79 rfl ?_
  have hi : i = fs.length := by omega
  subst hi
  rw [List.take_of_length_le (Nat.le_refl _)] at ho
  subst ho
  exact ⟨cx.ext, rs, cx.head, RowsF.mono (fun _ h => h) (fun b hb => cx.ext.block b (hA b hb)) _ _ hrows⟩
end Go.Proofs.Ytmkihcdcgkdilaa
end
