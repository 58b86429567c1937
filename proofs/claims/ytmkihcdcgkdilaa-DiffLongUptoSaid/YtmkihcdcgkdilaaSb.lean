/-
  Contracts of the sort: compare, insertionSort.
-/
import Derived.Test.YtmkihcdcgkdilaaSa
namespace Go.Proofs.Ytmkihcdcgkdilaa
open Go Go.Dk Go.RowKit
set_option linter.unusedSimpArgs false
set_option linter.unusedVariables false
attribute [local irreducible] Go.wpList Go.Code.wp Go.bodyPost Go.wpStill Go.wpQuiet
theorem ex151n : Extern.findNext Try.f151 = none := by kernel_rfl
theorem ex151 : Extern.find Try.f151 = some Extern.BytealgCompare.compare := by kernel_rfl
theorem run151 (a b : ByteArray) (w : World) : (callFunc 151 #[.string a, .string b]).run Try.prog w = .ok (.value (.int .i64 (Extern.BytealgCompare.cmp a b))) w := by
  have hf : Try.prog.funcs[151]? = some Try.f151 := Try.func151
  have hn : (Try.f151.name == "runtime.NumGoroutine") = false := by kernel_rfl
  have hb : Try.f151.body.isNone = true := by kernel_rfl
  have e : Extern.BytealgCompare.compare #[.string a, .string b] = (do pure (goInt (Extern.BytealgCompare.cmp (← Extern.Bytes.bytesOf (.string a)) (← Extern.Bytes.bytesOf (.string b))))) := rfl
  simp [callFunc, hf, hn, hb, ex151n, ex151, e, Extern.Bytes.bytesOf, goInt]
  rw [if_neg (by simpa using hn), if_pos (by simpa using hb)]
theorem v_cmp151 {o : Oper} {w : World} {n : Nat} {f : Nat → Value} {x y : Operand} {ats : Array TypeId} {a b : ByteArray} (ho : o.op = .call { callee := .value (.func 151), args := #[x, y], argTypes := ats }) (hx : ev n f x = .string a) (hy : ev n f y = .string b) : (execOp (ev n f) o).run Try.prog w = .ok (.value (.int .i64 (cmpL a.data.toList b.data.toList))) w := by
  have h := run151 a b w
  rw [cmp_eq] at h
  unfold execOp; rw [ho]
  have he : ev n f (.func 151) = .func (.func 151) #[] #[] := rfl
  simp [resolve, he, Deferred.ofValue, invoke, hx, hy, h]

set_option maxRecDepth 10000 in
theorem c146 (a b : ByteArray) (w0 : World) : Fc Try.prog 146 [.string a, .string b] w0 (fun u _ => u = .int .i64 (cmpL a.data.toList b.data.toList)) := by
  refine ret_enter Try.func146 rfl Try.ntmps146 rfl ?_
  have cx := Ctx.start w0
  refine wp_seq ?_
  refine wp_region_lit ?_
  refine s_val rfl rfl (v_assign rfl rfl) ?_
  refine wpList_nil ?_
  refine wp_seq ?_
  refine wp_region_lit ?_
  refine s_val rfl rfl (v_move rfl rfl) ?_
  refine s_val rfl rfl (v_move rfl rfl) ?_
  refine s_val rfl rfl (v_cmp151 rfl rfl rfl) ?_
  refine s_val rfl rfl (v_assign rfl rfl) ?_
  refine wpList_nil ?_
  refine wp_ret ?_
  refine ret_tmp Try.results146 rfl ?_
  exact ⟨cx.ext, rfl⟩

set_option maxRecDepth 10000 in
theorem c140 (a b : ByteArray) (w0 : World) : Fc Try.prog 140 [.string a, .string b] w0 (fun u _ => u = .int .i64 (cmpL a.data.toList b.data.toList)) := by
  refine ret_enter Try.func140 rfl Try.ntmps140 rfl ?_
  have cx := Ctx.start w0
  refine wp_seq ?_
  refine wp_region_lit ?_
  refine s_val rfl rfl (v_assign rfl rfl) ?_
  refine wpList_nil ?_
  refine wp_seq ?_
  refine wp_region_lit ?_
  refine s_val rfl rfl (v_move rfl rfl) ?_
  refine s_val rfl rfl (v_move rfl rfl) ?_
  refine s_fn cx (c146 _ _ _) Try.func146 rfl rfl rfl rfl rfl rfl ?_; intro q7 w cx hw7 hp7
  subst hp7
  refine s_val rfl rfl (v_assign rfl rfl) ?_
  refine wpList_nil ?_
  refine wp_ret ?_
  refine ret_tmp Try.results140 rfl ?_
  exact ⟨cx.ext, rfl⟩

set_option maxRecDepth 10000 in
theorem c139 (r s : List Value) (w0 : World) (hr : Rw r) (hs : Rw s) : Fc Try.prog 139 [.agg r.toArray, .agg s.toArray] w0 (fun u _ => u = .int .i64 (cmpL (rk r) (rk s))) := by
  obtain ⟨k1, l1, rfl, hl1, ho1⟩ := hr
  obtain ⟨k2, l2, rfl, hl2, ho2⟩ := hs
  refine ret_enter Try.func139 rfl Try.ntmps139 rfl ?_
  have cx := Ctx.start w0
  refine wp_seq ?_
  refine wp_region_lit ?_
  refine s_box cx rfl rfl rfl rfl rfl ?_; intro b2 w cx hb2 hw2
  refine s_box cx rfl rfl rfl rfl rfl ?_; intro b3 w cx hb3 hw3
  refine s_val rfl rfl (v_assign rfl rfl) ?_
  refine wpList_nil ?_
  refine wp_seq ?_
  refine wp_region_lit ?_
  refine s_val rfl rfl (v_fa fa77_0 rfl rfl) ?_
  refine s_val rfl rfl (v_load1 rfl rfl Try.underlying9 rfl (cx.cell 1 rfl rfl)) ?_
  refine s_val rfl rfl (v_fa fa77_0 rfl rfl) ?_
  refine s_val rfl rfl (v_load1 rfl rfl Try.underlying9 rfl (cx.cell 0 rfl rfl)) ?_
  refine s_fn cx (c140 _ _ _) Try.func140 rfl rfl rfl rfl rfl rfl ?_; intro q9 w cx hw9 hp9
  subst hp9
  refine s_val rfl rfl (v_assign rfl rfl) ?_
  refine wpList_nil ?_
  refine wp_ret ?_
  refine ret_tmp Try.results139 rfl ?_
  exact ⟨cx.ext, rfl⟩

theorem Rw.mid {A X Z B : List (List Value)} (h : ∀ r ∈ A ++ X ++ B, Rw r) (hp : Z.Perm X) : ∀ r ∈ A ++ Z ++ B, Rw r := by
  intro r hr
  refine h r ?_
  simp only [List.mem_append, hp.mem_iff] at hr ⊢
  exact hr
theorem ins_done {S1 S2 T : List (List Value)} {x : List Value} (hS : (S1 ++ S2).Pairwise Lt) (hd : Df ((S1 ++ S2) ++ x :: T)) (h2 : ∀ z ∈ S2, Lt x z) (h1 : 0 < S1.length → ¬ Lt x (S1.getD (S1.length - 1) [])) : (S1 ++ x :: S2).Pairwise Lt := by
  rw [List.pairwise_append] at hS ⊢
  refine ⟨hS.1, List.pairwise_cons.2 ⟨h2, hS.2.1⟩, fun a ha b hb => ?_⟩
  rcases List.mem_cons.1 hb with rfl | hb
  · obtain ⟨i, hi⟩ := List.getElem?_of_mem ha
    have hil := (List.getElem?_eq_some_iff.1 hi).1
    have hn := h1 (by omega)
    have hy : S1[S1.length - 1]? = some (S1.getD (S1.length - 1) []) := by rw [List.getD, List.getElem?_eq_getElem (by omega)]; rfl
    have hlt : Lt (S1.getD (S1.length - 1) []) b := by
      refine Lt.of_not ?_ hn
      have := (List.pairwise_append.1 hd).2.2 (S1.getD (S1.length - 1) []) (List.mem_append_left _ (List.mem_of_getElem? hy)) b (by simp)
      exact fun e => this e.symm
    by_cases e : i = S1.length - 1
    · rw [e, hy] at hi
      rw [← Option.some.inj hi]; exact hlt
    · exact Lt.trans _ _ _ (pw_idx hS.1 (by omega) hi hy) hlt
  · exact hS.2.2 a ha b hb
def FV : Value := .func (.func 139) #[] #[]

set_option maxRecDepth 10000 in
set_option maxHeartbeats 3200000 in
theorem c149 (wb : World) (L : List (Nat × Obj)) (R : List Row) (v : Value) (n : Nat) (A X B : List (List Value)) (a b : Int) (w0 : World) (cx : Cxr wb w0 L (⟨77, 14, v, n, (A ++ X ++ B).flatten⟩ :: R)) (hRs : ∀ r ∈ A ++ X ++ B, Rw r) (hn : (A ++ X ++ B).length = n) (hn1 : n ≤ 1048576) (hd : Df X)
    (ha : a = A.length) (hb : b = (A.length + X.length : Nat)) : Ret Try.prog 149 [v, .int .i64 a, .int .i64 b, FV] w0 (fun _ w' => ∃ Z : List (List Value), Z.Perm X ∧ Z.Pairwise Lt ∧ Cxr wb w' L (⟨77, 14, v, n, (A ++ Z ++ B).flatten⟩ :: R)) := by
  refine ret_enter Try.func149 rfl Try.ntmps149 rfl ?_
  have hnle : A.length + X.length + B.length = n := by simpa [Nat.add_assoc] using hn
  refine wp_seq ?_
  refine wp_region_lit ?_
  refine s_val rfl rfl (v_move rfl rfl) ?_
  refine s_val rfl rfl (v_add rfl rfl rfl (by omega) (by omega)) ?_
  refine s_val rfl rfl (v_assign rfl rfl) ?_
  refine wpList_nil ?_
  refine wp_block ?_
  refine w_loop (fun k f w1 => ∃ (S T : List (List Value)) (i : Int), k = T.length ∧ f 0 = v ∧ f 1 = .int .i64 a ∧ f 2 = .int .i64 b ∧ f 3 = FV ∧ f 8 = .int .i64 i ∧ 0 ≤ i ∧ i ≤ 1048577 ∧ (i = a + S.length ∨ T = [] ∧ b ≤ i) ∧ S.Pairwise Lt ∧ (S ++ T).Perm X ∧ Cxr wb w1 L (⟨77, 14, v, n, (A ++ (S ++ T) ++ B).flatten⟩ :: R)) ((X.drop 1).length) ?_ ?_
  · skip
    refine ⟨X.take 1, X.drop 1, a + 1, rfl, rfl, rfl, rfl, rfl, rfl, by omega, by omega, ?_, ?_, by rw [List.take_append_drop], by rw [List.take_append_drop]; exact cx⟩
    · cases X with
      | nil => exact .inr ⟨rfl, by simp at hb; omega⟩
      | cons x X => exact .inl (by simp)
    · cases X with
      | nil => simp
      | cons x X => simp
  intro gk1 f w hJ
  obtain ⟨S, T, i, hk, hs0, hs1, hs2, hs3, hs8, hi0, hi1, hi, hS, hp, cx⟩ := hJ
  refine wp_seq ?_
  refine wp_seq ?_
  refine wp_region_lit ?_
  refine s_val rfl rfl (v_move rfl hs8) ?_
  refine s_val rfl rfl (v_move rfl hs2) ?_
  refine s_val rfl rfl (v_cmp rfl rfl rfl rfl) ?_
  refine wpList_nil ?_
  refine c_split rfl (fun hc14 => ?_) (fun hc14 => ?_)
  · skip
    try simp only [Bool.and_eq_true, Bool.or_eq_true, Bool.and_eq_false_iff, Bool.or_eq_false_iff, Bool.not_eq_true', Bool.not_eq_false', decide_eq_true_eq, decide_eq_false_iff_not, beq_iff_eq, beq_eq_false_iff_ne, bne_iff_ne, bne_eq_false_iff_eq, ne_eq, Classical.not_not] at hc14
    obtain ⟨x, T', rfl⟩ : ∃ x T', T = x :: T' := by
      cases T with
      | nil =>
        exfalso
        have := hp.length_eq
        simp at this
        rcases hi with hi | ⟨_, hi⟩ <;> omega
      | cons x T' => exact ⟨x, T', rfl⟩
    have hlp := hp.length_eq
    simp only [List.length_append, List.length_cons] at hlp
    replace hi : i = a + S.length := by
      rcases hi with hi | ⟨hi, _⟩
      · exact hi
      · cases hi
    refine wp_skip ?_
    refine wp_seq ?_
    refine wp_block ?_
    refine wp_seq ?_
    refine wp_region_lit ?_
    refine s_val rfl rfl (v_move rfl hs8) ?_
    refine s_val rfl rfl (v_assign rfl rfl) ?_
    refine wpList_nil ?_
    refine wp_block ?_
    refine w_loop (fun k f w1 => ∃ (S1 S2 : List (List Value)), k = S1.length ∧ f 0 = v ∧ f 1 = .int .i64 a ∧ f 2 = .int .i64 b ∧ f 3 = FV ∧ f 8 = .int .i64 i ∧ f 9 = .int .i64 (a + S1.length) ∧ S1 ++ S2 = S ∧ (∀ z ∈ S2, Lt x z) ∧ Cxr wb w1 L (⟨77, 14, v, n, (A ++ (S1 ++ x :: S2 ++ T') ++ B).flatten⟩ :: R)) (S.length) ?_ ?_
    · skip
      refine ⟨S, [], rfl, hs0, hs1, hs2, hs3, hs8, ?_, by simp, by simp, by simpa using cx⟩
      show Value.int .i64 i = _; rw [hi]
    intro gk4 f w hJ
    obtain ⟨S1, S2, hk2, hs0, hs1, hs2, hs3, hs8, hs9, hS12, h2, cxi⟩ := hJ
    subst hS12
    replace cx := cxi
    have hpp : (S1 ++ x :: S2 ++ T').Perm X := by
      refine List.Perm.trans ?_ hp
      simp only [List.append_assoc]
      refine List.Perm.append_left S1 ?_
      simp only [List.cons_append]
      exact List.perm_middle.symm
    have hRs1 := Rw.mid hRs hpp
    have hlen : (A ++ (S1 ++ x :: S2 ++ T') ++ B).length = n := by
      have := hpp.length_eq
      simp only [List.length_append] at this ⊢; omega
    have hl12 : S1.length + S2.length + 1 + T'.length = X.length := by simp at hlp; omega
    have hgx0 : (A ++ (S1 ++ x :: S2 ++ T') ++ B)[((a + S1.length : Int)).toNat]? = some x := by
      have e : A ++ (S1 ++ x :: S2 ++ T') ++ B = (A ++ S1) ++ x :: (S2 ++ T' ++ B) := by simp
      rw [e, show ((a + S1.length : Int)).toNat = (A ++ S1).length by simp; omega, get_mid]
    have hrx : Rw x := hRs1 x (by simp)
    have hyy : 0 < S1.length → S1[S1.length - 1]? = some (S1.getD (S1.length - 1) []) ∧ Rw (S1.getD (S1.length - 1) []) := by
      intro h0
      have h1 : S1[S1.length - 1]? = some (S1.getD (S1.length - 1) []) := by rw [List.getD, List.getElem?_eq_getElem (by omega)]; rfl
      exact ⟨h1, hRs1 _ (by simp only [List.mem_append]; exact .inl (.inr (.inl (.inl (List.mem_of_getElem? h1)))))⟩
    have hgy0 : 0 < S1.length → (A ++ (S1 ++ x :: S2 ++ T') ++ B)[((a + S1.length - 1 : Int)).toNat]? = some (S1.getD (S1.length - 1) []) := by
      intro h0
      have e : A ++ (S1 ++ x :: S2 ++ T') ++ B = A ++ (S1 ++ (x :: S2 ++ T' ++ B)) := by simp
      rw [e, List.getElem?_append_right (by omega), List.getElem?_append_left (by omega), show ((a + S1.length - 1 : Int)).toNat - A.length = S1.length - 1 by omega]
      exact (hyy h0).1
    obtain ⟨g, c, rfl⟩ := cx.el hRs1 hlen hgx0
    refine wp_seq ?_
    refine wp_seq ?_
    refine w_quiet cx mixed (by kernel_rfl) ?_
    skip
    refine q_val rfl rfl (fun w cx hwQ => v_move rfl hs9) ?_
    refine q_val rfl rfl (fun w cx hwQ => v_move rfl hs1) ?_
    refine q_val rfl rfl (fun w cx hwQ => v_cmp rfl rfl rfl rfl) ?_
    refine q_val rfl rfl (fun w cx hwQ => v_move rfl rfl) ?_
    refine q_gval rfl rfl rfl (by first | exact w_tt rfl | exact w_gt rfl) (fun hc w cx hwQ => v_move rfl hs3) ?_
    refine q_gval rfl rfl rfl (by first | exact w_tt rfl | exact w_gt rfl) (fun hc w cx hwQ => v_move rfl hs0) ?_
    refine q_gval rfl rfl rfl (by first | exact w_tt rfl | exact w_gt rfl) (fun hc w cx hwQ => v_move rfl hs9) ?_
    refine q_gval rfl rfl rfl (by first | exact w_tt rfl | exact w_gt rfl) (fun hc w cx hwQ => v_ia Try.underlying31 sz77 rfl (gve hc rfl) (gve hc rfl) (by omega) (by omega)) ?_
    refine q_gval rfl rfl rfl (by first | exact w_tt rfl | exact w_gt rfl) (fun hc w cx hwQ => v_load rfl (gve hc rfl) Try.underlying77 rfl sz77 (cx.elAt hRs1 hlen hgx0) hrx.len) ?_
    refine q_gval rfl rfl rfl (by first | exact w_tt rfl | exact w_gt rfl) (fun hc w cx hwQ => v_move rfl hs0) ?_
    refine q_gval rfl rfl rfl (by first | exact w_tt rfl | exact w_gt rfl) (fun hc w cx hwQ => v_move rfl hs9) ?_
    refine q_gval rfl rfl rfl (by first | exact w_tt rfl | exact w_gt rfl) (fun hc w cx hwQ => v_sub rfl (gve hc rfl) rfl (by omega) (by omega)) ?_
    refine q_gval rfl rfl rfl (by first | exact w_tt rfl | exact w_gt rfl) (fun hc w cx hwQ => v_ia Try.underlying31 sz77 rfl (gve hc rfl) (gve hc rfl) (by have := of_decide_eq_true hc; omega) (by have := of_decide_eq_true hc; omega)) ?_
    refine q_gval rfl rfl rfl (by first | exact w_tt rfl | exact w_gt rfl) (fun hc w cx hwQ => v_load rfl (gve hc rfl) Try.underlying77 rfl sz77 (cx.elAt hRs1 hlen (hgy0 (by have := of_decide_eq_true hc; omega))) (hyy (by have := of_decide_eq_true hc; omega)).2.len) ?_
    refine q_gcall rfl rfl rfl (by first | exact w_tt rfl | exact w_gt rfl) (fun hc => runs_fnv0 Try.func139 rfl rfl rfl (gve hc rfl) (cons_eq (gve hc rfl) (cons_eq (gve hc rfl) rfl))) (fun hc w cx hwQ => c139 _ _ _ hrx (hyy (by have := of_decide_eq_true hc; omega)).2) ?_
    refine q_gval rfl rfl rfl (by first | exact w_tt rfl | exact w_gt rfl) (fun hc w cx hwQ => v_cmp rfl (by first | exact gve hc rfl | exact gve (and_l hc) rfl | exact gve (and_l (and_l hc)) rfl | rfl) rfl rfl) ?_
    refine q_val rfl rfl (fun w cx hwQ => v_and rfl rfl rfl rfl) ?_
    refine q_nil ?_; rintro w ⟨cx, hwQ4⟩
    refine c_split rfl (fun hc34 => ?_) (fun hc34 => ?_)
    · skip
      try simp only [Bool.and_eq_true, Bool.or_eq_true, Bool.and_eq_false_iff, Bool.or_eq_false_iff, Bool.not_eq_true', Bool.not_eq_false', decide_eq_true_eq, decide_eq_false_iff_not, beq_iff_eq, beq_eq_false_iff_ne, bne_iff_ne, bne_eq_false_iff_eq, ne_eq, Classical.not_not] at hc34
      obtain ⟨hcj, hcl⟩ := hc34
      obtain ⟨hy, hry⟩ := hyy (by omega)
      have hS1 : S1 = S1.take (S1.length - 1) ++ [S1.getD (S1.length - 1) []] := by
        have h1 := List.take_succ_eq_append_getElem (l := S1) (i := S1.length - 1) (by omega)
        rw [show S1.length - 1 + 1 = S1.length by omega, List.take_length] at h1
        rw [List.getD, hy]
        conv => lhs; rw [h1]
        rw [List.getElem?_eq_getElem (by omega)] at hy
        rw [Option.some.inj hy]; rfl
      generalize S1.getD (S1.length - 1) [] = y at *
      have est : A ++ (S1 ++ x :: S2 ++ T') ++ B = (A ++ S1.take (S1.length - 1)) ++ y :: ([] ++ x :: (S2 ++ T' ++ B)) := by
        conv => lhs; rw [hS1]
        simp
      have hlenP : (A ++ S1.take (S1.length - 1)).length + 1 = A.length + S1.length := by simp; omega
      have est' : A ++ (S1.take (S1.length - 1) ++ x :: (y :: S2) ++ T') ++ B = (A ++ S1.take (S1.length - 1)) ++ x :: ([] ++ y :: (S2 ++ T' ++ B)) := by simp
      rw [est] at cx hRs1 hlen
      generalize hP : A ++ S1.take (S1.length - 1) = P at *
      have hi' : ((a + S1.length - 1 : Int)).toNat = P.length := by omega
      have hj' : ((a + S1.length : Int)).toNat = P.length + 1 + ([] : List (List Value)).length := by simp only [List.length_nil]; omega
      have hgy := get_mid1 P [] (S2 ++ T' ++ B) y x hi'
      have hgx := get_mid2 P [] (S2 ++ T' ++ B) y x hj'
      have hiy := (List.getElem?_eq_some_iff.1 hgy).1
      have hjx := (List.getElem?_eq_some_iff.1 hgx).1
      refine wp_skip ?_
      refine wp_seq ?_
      refine wp_block ?_
      refine w_ord cx (Ctx.sub0 cx) mixed [(0, 37), (1, 38), (2, 39), (3, 40), (4, 41), (5, 42), (6, 43), (7, 44), (8, 45), (10, 47), (11, 48), (12, 49)] #[true, true, true, true, true, true, true, true, true, false, true, true, true, false, false, false, false, false] (by kernel_rfl) (by kernel_rfl) (by kernel_rfl) (by kernel_rfl) ?_
      refine pu_one rfl (wnt_none rfl) (fun w cx => v_move rfl hs0) ?_
      refine pu_one rfl (wnt_none rfl) (fun w cx => v_move rfl hs9) ?_
      refine pu_one rfl (wnt_none rfl) (fun w cx => v_move rfl hs0) ?_
      refine pu_one rfl (wnt_none rfl) (fun w cx => v_move rfl hs9) ?_
      refine pu_one rfl (wnt_none rfl) (fun w cx => v_sub rfl rfl rfl (by omega) (by omega)) ?_
      refine pu_one rfl (wnt_none rfl) (fun w cx => v_move rfl hs0) ?_
      refine pu_one rfl (wnt_none rfl) (fun w cx => v_move rfl hs9) ?_
      refine pu_one rfl (wnt_none rfl) (fun w cx => v_sub rfl rfl rfl (by omega) (by omega)) ?_
      refine pu_one rfl (wnt_none rfl) (fun w cx => v_ia Try.underlying31 sz77 rfl rfl rfl (by omega) (by omega)) ?_
      refine pu_one rfl (wnt_none rfl) (fun w cx => v_move rfl hs0) ?_
      refine pu_one rfl (wnt_none rfl) (fun w cx => v_move rfl hs9) ?_
      refine pu_one rfl (wnt_none rfl) (fun w cx => v_ia Try.underlying31 sz77 rfl rfl rfl (by omega) (by omega)) ?_
      refine pu_nil ?_; intro w cx hwD6
      refine x_two (i := 9) (j := 13) (by kernel_rfl) rfl rfl ?_ ?_
      · skip
        refine s_val rfl rfl (v_load rfl rfl Try.underlying77 rfl sz77 (cx.elAt hRs1 hlen hgy) hry.len) ?_
        refine x_next ⟨.inl (Ctx.sub0 cx), ?_⟩
        refine x_one (i := 13) (by kernel_rfl) rfl ?_
        refine s_val rfl rfl (v_load rfl rfl Try.underlying77 rfl sz77 (cx.elAt hRs1 hlen hgx) hrx.len) ?_
        refine x_next ⟨.inl (Ctx.sub0 cx), ?_⟩
        refine x_one (i := 14) (by kernel_rfl) rfl ?_
        refine s_val rfl rfl (v_ia Try.underlying31 sz77 rfl rfl rfl (by omega) (by omega)) ?_
        refine x_next ⟨.inl (Ctx.sub0 cx), ?_⟩
        refine x_one (i := 15) (by kernel_rfl) rfl ?_
        refine s_storeEl cx rfl rfl rfl rfl rfl sz77 hRs1 hlen hjx hry ?_; intro w cx
        refine x_next ⟨.inl (Ctx.sub0 cx), ?_⟩
        refine x_one (i := 16) (by kernel_rfl) rfl ?_
        refine s_val rfl rfl (v_ia Try.underlying31 sz77 rfl rfl rfl (by omega) (by omega)) ?_
        refine x_next ⟨.inr (by kernel_rfl), ?_⟩
        refine x_one (i := 17) (by kernel_rfl) rfl ?_
        refine s_storeEl cx rfl rfl rfl rfl rfl sz77 (Rw.set hRs1 _ hry) (by simpa using hlen) (by simpa using hiy) hrx ?_; intro w cx
        rw [sw_mid' P [] (S2 ++ T' ++ B) y x hi' hj'] at cx
        refine x_next ⟨.inr (by kernel_rfl), ?_⟩
        refine x_done (by kernel_rfl) ?_
        refine wp_region_lit ?_
        refine s_val rfl rfl (v_move rfl hs9) ?_
        refine s_val rfl rfl (v_sub rfl rfl rfl (by omega) (by omega)) ?_
        refine s_val rfl rfl (v_assign rfl rfl) ?_
        refine wpList_nil ?_
        refine ⟨S1.length - 1, _, by omega, rfl, S1.take (S1.length - 1), y :: S2, by rw [List.length_take]; omega, hs0, hs1, hs2, hs3, hs8, ?_, ?_, ?_, ?_⟩
        · rw [List.length_take, Nat.min_eq_left (by omega)]
          show Value.int .i64 _ = _
          congr 1; omega
        · conv => rhs; rw [hS1]
          simp
        · intro z hz
          rcases List.mem_cons.1 hz with rfl | hz
          · exact hcl
          · exact h2 z hz
        · rw [est']
          exact cx
      · skip
        refine s_val rfl rfl (v_load rfl rfl Try.underlying77 rfl sz77 (cx.elAt hRs1 hlen hgx) hrx.len) ?_
        refine x_next ⟨.inl (Ctx.sub0 cx), ?_⟩
        refine x_one (i := 9) (by kernel_rfl) rfl ?_
        refine s_val rfl rfl (v_load rfl rfl Try.underlying77 rfl sz77 (cx.elAt hRs1 hlen hgy) hry.len) ?_
        refine x_next ⟨.inl (Ctx.sub0 cx), ?_⟩
        refine x_one (i := 14) (by kernel_rfl) rfl ?_
        refine s_val rfl rfl (v_ia Try.underlying31 sz77 rfl rfl rfl (by omega) (by omega)) ?_
        refine x_next ⟨.inl (Ctx.sub0 cx), ?_⟩
        refine x_one (i := 15) (by kernel_rfl) rfl ?_
        refine s_storeEl cx rfl rfl rfl rfl rfl sz77 hRs1 hlen hjx hry ?_; intro w cx
        refine x_next ⟨.inl (Ctx.sub0 cx), ?_⟩
        refine x_one (i := 16) (by kernel_rfl) rfl ?_
        refine s_val rfl rfl (v_ia Try.underlying31 sz77 rfl rfl rfl (by omega) (by omega)) ?_
        refine x_next ⟨.inr (by kernel_rfl), ?_⟩
        refine x_one (i := 17) (by kernel_rfl) rfl ?_
        refine s_storeEl cx rfl rfl rfl rfl rfl sz77 (Rw.set hRs1 _ hry) (by simpa using hlen) (by simpa using hiy) hrx ?_; intro w cx
        rw [sw_mid' P [] (S2 ++ T' ++ B) y x hi' hj'] at cx
        refine x_next ⟨.inr (by kernel_rfl), ?_⟩
        refine x_done (by kernel_rfl) ?_
        refine wp_region_lit ?_
        refine s_val rfl rfl (v_move rfl hs9) ?_
        refine s_val rfl rfl (v_sub rfl rfl rfl (by omega) (by omega)) ?_
        refine s_val rfl rfl (v_assign rfl rfl) ?_
        refine wpList_nil ?_
        refine ⟨S1.length - 1, _, by omega, rfl, S1.take (S1.length - 1), y :: S2, by rw [List.length_take]; omega, hs0, hs1, hs2, hs3, hs8, ?_, ?_, ?_, ?_⟩
        · rw [List.length_take, Nat.min_eq_left (by omega)]
          show Value.int .i64 _ = _
          congr 1; omega
        · conv => rhs; rw [hS1]
          simp
        · intro z hz
          rcases List.mem_cons.1 hz with rfl | hz
          · exact hcl
          · exact h2 z hz
        · rw [est']
          exact cx
    · skip
      try simp only [Bool.and_eq_true, Bool.or_eq_true, Bool.and_eq_false_iff, Bool.or_eq_false_iff, Bool.not_eq_true', Bool.not_eq_false', decide_eq_true_eq, decide_eq_false_iff_not, beq_iff_eq, beq_eq_false_iff_ne, bne_iff_ne, bne_eq_false_iff_eq, ne_eq, Classical.not_not] at hc34
      have hex : 0 < S1.length → ¬ Lt x (S1.getD (S1.length - 1) []) := by
        intro h0 hl
        rcases hc34 with h | h
        · omega
        · exact h hl
      refine wp_exit ?_
      refine wp_region_lit ?_
      refine s_val rfl rfl (v_move rfl hs8) ?_
      refine s_val rfl rfl (v_add rfl rfl rfl (by omega) (by omega)) ?_
      refine s_val rfl rfl (v_assign rfl rfl) ?_
      refine wpList_nil ?_
      refine ⟨T'.length, _, by rw [hk, List.length_cons]; omega, rfl, S1 ++ x :: S2, T', i + 1, rfl, hs0, hs1, hs2, hs3, rfl, by omega, by omega, .inl (by simp; omega), ins_done hS (hd.perm hp.symm) h2 hex, ?_, cx⟩
      refine List.Perm.trans ?_ hp
      simp only [List.append_assoc]
      refine List.Perm.append_left S1 ?_
      simp only [List.cons_append]
      exact List.perm_middle.symm
  · skip
    try simp only [Bool.and_eq_true, Bool.or_eq_true, Bool.and_eq_false_iff, Bool.or_eq_false_iff, Bool.not_eq_true', Bool.not_eq_false', decide_eq_true_eq, decide_eq_false_iff_not, beq_iff_eq, beq_eq_false_iff_ne, bne_iff_ne, bne_eq_false_iff_eq, ne_eq, Classical.not_not] at hc14
    have hT : T = [] := by
      rcases hi with hi | ⟨hi, _⟩
      · have := hp.length_eq
        simp at this
        exact List.eq_nil_of_length_eq_zero (by omega)
      · exact hi
    refine wp_exit ?_
    refine ret_no (.inr rfl) Try.results149 ?_
    rw [hT, List.append_nil] at cx hp
    exact ⟨S, hp, hS, cx⟩
end Go.Proofs.Ytmkihcdcgkdilaa
