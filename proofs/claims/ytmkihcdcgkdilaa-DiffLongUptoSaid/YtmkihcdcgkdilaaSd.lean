/-
  Contract of the sort: symMerge.
-/
import Derived.Test.YtmkihcdcgkdilaaSc
namespace Go.Proofs.Ytmkihcdcgkdilaa
open Go Go.Dk Go.RowKit
set_option linter.unusedSimpArgs false
set_option linter.unusedVariables false
attribute [local irreducible] Go.wpList Go.Code.wp Go.bodyPost Go.wpStill Go.wpQuiet
set_option maxRecDepth 10000 in
set_option maxHeartbeats 6400000 in
theorem c150 : ∀ (k : Nat) (wb : World) (L : List (Nat × Obj)) (R : List Row) (v : Value) (n : Nat) (A X Y B : Els) (a m b : Int) (w0 : World), X.length + Y.length ≤ k → Cxr wb w0 L (⟨77, 14, v, n, (A ++ (X ++ Y) ++ B).flatten⟩ :: R) → (∀ r ∈ A ++ (X ++ Y) ++ B, Rw r) → (A ++ (X ++ Y) ++ B).length = n → n ≤ 1048576 → Df (X ++ Y) → X.Pairwise Lt → Y.Pairwise Lt → 0 < X.length → 0 < Y.length →
    a = A.length → m = (A.length + X.length : Nat) → b = (A.length + X.length + Y.length : Nat) → Ret Try.prog 150 [v, .int .i64 a, .int .i64 m, .int .i64 b, FV] w0 (fun _ w' => ∃ Z : Els, Z.Perm (X ++ Y) ∧ Z.Pairwise Lt ∧ Cxr wb w' L (⟨77, 14, v, n, (A ++ Z ++ B).flatten⟩ :: R)) := by
  intro k
  induction k with
  | zero => intro wb L R v n A X Y B a m b w0 hk0 cx hRs hn hn1 hd hX hY h0X h0Y ha hm hb; omega
  | succ k ih =>
  intro wb L R v n A X Y B a m b w0 hk0 cx hRs hn hn1 hd hX hY h0X h0Y ha hm hb
  obtain ⟨g, cc, hv⟩ := cx.el hRs hn (atX (A := A) (X := X) (Y := Y) (B := B) (q := a) (j := 0) h0X (by omega))
  have hnle : A.length + X.length + Y.length + B.length = n := by simpa [Nat.add_assoc] using hn
  refine ret_enter Try.func150 rfl Try.ntmps150 rfl ?_
  skip
  refine wp_seq ?_
  refine wp_seq ?_
  refine wp_region_lit ?_
  refine s_val rfl rfl (v_move rfl rfl) ?_
  refine s_val rfl rfl (v_move rfl rfl) ?_
  refine s_val rfl rfl (v_sub rfl rfl rfl (by omega) (by omega)) ?_
  refine s_val rfl rfl (v_cmp rfl rfl rfl rfl) ?_
  refine wpList_nil ?_
  refine c_split rfl (fun hc28 => ?_) (fun hc28 => ?_)
  · skip
    try simp only [Bool.and_eq_true, Bool.or_eq_true, Bool.and_eq_false_iff, Bool.or_eq_false_iff, Bool.not_eq_true', Bool.not_eq_false', decide_eq_true_eq, decide_eq_false_iff_not, beq_iff_eq, beq_eq_false_iff_ne, bne_iff_ne, bne_eq_false_iff_eq, ne_eq, Classical.not_not] at hc28
    obtain ⟨x, rfl⟩ : ∃ x, X = [x] := List.length_eq_one_iff.1 (by omega)
    have hX1 : ([x] : Els).length = 1 := rfl
    have hrx : Rw x := hRs x (by simp)
    have hgx : (A ++ ([x] ++ Y) ++ B)[(a : Int).toNat]? = some x := atX (A := A) (X := [x]) (Y := Y) (B := B) (q := a) (j := 0) (by omega) (by omega)
    have hdxy : ∀ j, j < Y.length → rk x ≠ rk (Y.getD j []) := fun j hj => hd.xy (i := 0) (by omega) hj
    have hpt : ∀ t, (Y.take t ++ x :: Y.drop t).Perm ([x] ++ Y) := fun t => by
      have := List.perm_middle (a := x) (l₁ := Y.take t) (l₂ := Y.drop t)
      rwa [List.take_append_drop] at this
    refine wp_seq ?_
    refine wp_region_lit ?_
    refine s_val rfl rfl (v_move rfl rfl) ?_
    refine s_val rfl rfl (v_assign rfl rfl) ?_
    refine wpList_nil ?_
    refine wp_seq ?_
    refine wp_region_lit ?_
    refine s_val rfl rfl (v_move rfl rfl) ?_
    refine s_val rfl rfl (v_assign rfl rfl) ?_
    refine wpList_nil ?_
    refine wp_seq ?_
    refine wp_block ?_
    refine w_loop (fun k f w1 => ∃ i j : Nat, k = j - i ∧ f 0 = v ∧ f 1 = .int .i64 a ∧ f 2 = .int .i64 m ∧ f 3 = .int .i64 b ∧ f 4 = FV ∧ f 10 = .int .i64 (m + i) ∧ f 11 = .int .i64 (m + j) ∧ i ≤ j ∧ j ≤ Y.length ∧ (0 < i → Lt (Y.getD (i - 1) []) x) ∧ (j < Y.length → ¬ Lt (Y.getD j []) x) ∧ Cxr wb w1 L (⟨77, 14, v, n, (A ++ ([x] ++ Y) ++ B).flatten⟩ :: R)) (Y.length) ?_ ?_
    · skip
      exact ⟨0, Y.length, rfl, rfl, rfl, rfl, rfl, rfl, by show Value.int .i64 m = _; congr 1; omega, by show Value.int .i64 b = _; congr 1; omega, by omega, by omega, fun h => by omega, fun h => by omega, cx⟩
    intro gk3 f w hJ
    obtain ⟨i, j, hk, hs0, hs1, hs2, hs3, hs4, hs10, hs11, hij, hjY, h1, h2, cx⟩ := hJ
    refine wp_seq ?_
    refine wp_seq ?_
    refine wp_region_lit ?_
    refine s_val rfl rfl (v_move rfl hs10) ?_
    refine s_val rfl rfl (v_move rfl hs11) ?_
    refine s_val rfl rfl (v_cmp rfl rfl rfl rfl) ?_
    refine wpList_nil ?_
    refine c_split rfl (fun hc33 => ?_) (fun hc33 => ?_)
    · skip
      try simp only [Bool.and_eq_true, Bool.or_eq_true, Bool.and_eq_false_iff, Bool.or_eq_false_iff, Bool.not_eq_true', Bool.not_eq_false', decide_eq_true_eq, decide_eq_false_iff_not, beq_iff_eq, beq_eq_false_iff_ne, bne_iff_ne, bne_eq_false_iff_eq, ne_eq, Classical.not_not] at hc33
      have hgy := atY (A := A) (X := [x]) (Y := Y) (B := B) (q := m + ((i + j) / 2 : Nat)) (j := (i + j) / 2) (by omega) (by omega)
      have hry : Rw (Y.getD ((i + j) / 2) []) := hRs _ (by simp only [List.mem_append]; exact .inl (.inr (.inr (getD_mem (by omega)))))
      refine wp_skip ?_
      refine wp_block ?_
      refine wp_seq ?_
      refine wp_region_lit ?_
      refine s_val rfl rfl (v_move rfl hs10) ?_
      refine s_val rfl rfl (v_move rfl hs11) ?_
      refine s_val rfl rfl (v_add rfl rfl rfl (by omega) (by omega)) ?_
      refine s_val rfl rfl (v_convQ rfl rfl Try.underlying3 Try.underlying170 (IntWalk.u64_in _ (by omega))) ?_
      refine s_val rfl rfl (v_shr1 rfl rfl rfl) ?_
      refine s_val rfl rfl (v_convQ rfl rfl Try.underlying170 Try.underlying3 (m' := m + ((i + j) / 2 : Nat)) (by rw [IntWalk.i64_in _ (by omega)]; omega)) ?_
      refine s_val rfl rfl (v_assign rfl rfl) ?_
      refine wpList_nil ?_
      refine wp_seq ?_
      refine w_quiet cx mixed (by kernel_rfl) ?_
      skip
      refine q_val rfl rfl (fun w cx hwQ => v_move rfl hs4) ?_
      refine q_val rfl rfl (fun w cx hwQ => v_move rfl hs0) ?_
      refine q_val rfl rfl (fun w cx hwQ => v_move rfl rfl) ?_
      refine q_val rfl rfl (fun w cx hwQ => v_ia Try.underlying31 sz77 rfl hv rfl (by omega) (by omega)) ?_
      refine q_val rfl rfl (fun w cx hwQ => v_load rfl rfl Try.underlying77 rfl sz77 (cx.elV hv hRs hn hgy) hry.len) ?_
      refine q_val rfl rfl (fun w cx hwQ => v_move rfl hs0) ?_
      refine q_val rfl rfl (fun w cx hwQ => v_move rfl hs1) ?_
      refine q_val rfl rfl (fun w cx hwQ => v_ia Try.underlying31 sz77 rfl hv rfl (by omega) (by omega)) ?_
      refine q_val rfl rfl (fun w cx hwQ => v_load rfl rfl Try.underlying77 rfl sz77 (cx.elV hv hRs hn hgx) hrx.len) ?_
      refine q_call rfl rfl (runs_fnv0 Try.func139 rfl rfl rfl rfl rfl) (fun w cx hwQ => c139 _ _ _ hry hrx) ?_
      refine q_val rfl rfl (fun w cx hwQ => v_cmp rfl rfl rfl rfl) ?_
      refine q_nil ?_; rintro w ⟨cx, hwQ5⟩
      refine c_split rfl (fun hc50 => ?_) (fun hc50 => ?_)
      · skip
        try simp only [Bool.and_eq_true, Bool.or_eq_true, Bool.and_eq_false_iff, Bool.or_eq_false_iff, Bool.not_eq_true', Bool.not_eq_false', decide_eq_true_eq, decide_eq_false_iff_not, beq_iff_eq, beq_eq_false_iff_ne, bne_iff_ne, bne_eq_false_iff_eq, ne_eq, Classical.not_not] at hc50
        refine wp_region_lit ?_
        refine s_val rfl rfl (v_move rfl rfl) ?_
        refine s_val rfl rfl (v_add rfl rfl rfl (by omega) (by omega)) ?_
        refine s_val rfl rfl (v_assign rfl rfl) ?_
        refine wpList_nil ?_
        exact ⟨j - ((i + j) / 2 + 1), _, by omega, rfl, (i + j) / 2 + 1, j, rfl, hs0, hs1, hs2, hs3, hs4, by show Value.int .i64 _ = _; congr 1; omega, hs11, by omega, by omega, fun _ => by rw [Nat.add_sub_cancel]; exact hc50, h2, cx⟩
      · skip
        try simp only [Bool.and_eq_true, Bool.or_eq_true, Bool.and_eq_false_iff, Bool.or_eq_false_iff, Bool.not_eq_true', Bool.not_eq_false', decide_eq_true_eq, decide_eq_false_iff_not, beq_iff_eq, beq_eq_false_iff_ne, bne_iff_ne, bne_eq_false_iff_eq, ne_eq, Classical.not_not] at hc50
        refine wp_region_lit ?_
        refine s_val rfl rfl (v_move rfl rfl) ?_
        refine s_val rfl rfl (v_assign rfl rfl) ?_
        refine wpList_nil ?_
        exact ⟨(i + j) / 2 - i, _, by omega, rfl, i, (i + j) / 2, rfl, hs0, hs1, hs2, hs3, hs4, hs10, rfl, by omega, by omega, h1, fun _ => by unfold Lt; omega, cx⟩
    · skip
      try simp only [Bool.and_eq_true, Bool.or_eq_true, Bool.and_eq_false_iff, Bool.or_eq_false_iff, Bool.not_eq_true', Bool.not_eq_false', decide_eq_true_eq, decide_eq_false_iff_not, beq_iff_eq, beq_eq_false_iff_ne, bne_iff_ne, bne_eq_false_iff_eq, ne_eq, Classical.not_not] at hc33
      obtain rfl : i = j := by omega
      refine wp_exit ?_
      refine wp_seq ?_
      refine wp_seq ?_
      refine wp_region_lit ?_
      refine s_val rfl rfl (v_move rfl hs1) ?_
      refine s_val rfl rfl (v_assign rfl rfl) ?_
      refine wpList_nil ?_
      refine wp_block ?_
      refine w_loop (fun k f w1 => ∃ t : Nat, k = i - t ∧ f 0 = v ∧ f 1 = .int .i64 a ∧ f 2 = .int .i64 m ∧ f 3 = .int .i64 b ∧ f 4 = FV ∧ f 10 = .int .i64 (m + i) ∧ f 13 = .int .i64 (a + t) ∧ t ≤ i ∧ Cxr wb w1 L (⟨77, 14, v, n, (A ++ (Y.take t ++ x :: Y.drop t) ++ B).flatten⟩ :: R)) (i) ?_ ?_
      · skip
        exact ⟨0, by omega, hs0, hs1, hs2, hs3, hs4, hs10, by show Value.int .i64 a = _; congr 1; omega, by omega, by simpa using cx⟩
      intro gk9 f w hJ
      obtain ⟨t, hk, hs0, hs1, hs2, hs3, hs4, hs10, hs13, hti, cx⟩ := hJ
      refine wp_seq ?_
      refine wp_seq ?_
      refine wp_region_lit ?_
      refine s_val rfl rfl (v_move rfl hs13) ?_
      refine s_val rfl rfl (v_move rfl hs10) ?_
      refine s_val rfl rfl (v_sub rfl rfl rfl (by omega) (by omega)) ?_
      refine s_val rfl rfl (v_cmp rfl rfl rfl rfl) ?_
      refine wpList_nil ?_
      refine c_split rfl (fun hc58 => ?_) (fun hc58 => ?_)
      · skip
        try simp only [Bool.and_eq_true, Bool.or_eq_true, Bool.and_eq_false_iff, Bool.or_eq_false_iff, Bool.not_eq_true', Bool.not_eq_false', decide_eq_true_eq, decide_eq_false_iff_not, beq_iff_eq, beq_eq_false_iff_ne, bne_iff_ne, bne_eq_false_iff_eq, ne_eq, Classical.not_not] at hc58
        obtain ⟨y, hy, hYs, hYt, hYd⟩ := split_at (l := Y) (i := t) (by omega)
        have hst : A ++ (Y.take t ++ x :: Y.drop t) ++ B = (A ++ Y.take t) ++ x :: ([] ++ y :: (Y.drop (t + 1) ++ B)) := by rw [hYd]; simp
        have hst' : A ++ (Y.take (t + 1) ++ x :: Y.drop (t + 1)) ++ B = (A ++ Y.take t) ++ y :: ([] ++ x :: (Y.drop (t + 1) ++ B)) := by rw [hYt]; simp
        have hlen : (A ++ (Y.take t ++ x :: Y.drop t) ++ B).length = n := by have := (hpt t).length_eq; rw [← hn]; simp only [List.length_append] at this ⊢; omega
        have hRs1 := Rw.mid hRs (hpt t)
        rw [hst] at cx hlen hRs1
        have hlP : (A ++ Y.take t).length = A.length + t := by simp; omega
        have hry : Rw y := hRs1 y (by simp)
        have hi' : ((a + t : Int)).toNat = (A ++ Y.take t).length := by omega
        have hj' : ((a + t + 1 : Int)).toNat = (A ++ Y.take t).length + 1 + ([] : Els).length := by simp only [List.length_nil]; omega
        have hgx' := get_mid1 (A ++ Y.take t) [] (Y.drop (t + 1) ++ B) x y hi'
        have hgy' := get_mid2 (A ++ Y.take t) [] (Y.drop (t + 1) ++ B) x y hj'
        have hix := (List.getElem?_eq_some_iff.1 hgx').1
        have hjy := (List.getElem?_eq_some_iff.1 hgy').1
        refine wp_skip ?_
        refine wp_seq ?_
        refine wp_block ?_
        refine w_ord cx (Ctx.sub0 cx) mixed [(0, 61), (1, 62), (2, 63), (3, 64), (4, 65), (5, 66), (6, 67), (7, 68), (8, 69), (10, 71), (11, 72), (12, 73)] #[true, true, true, true, true, true, true, true, true, false, true, true, true, false, false, false, false, false] (by kernel_rfl) (by kernel_rfl) (by kernel_rfl) (by kernel_rfl) ?_
        refine pu_one rfl (wnt_none rfl) (fun w cx => v_move rfl hs0) ?_
        refine pu_one rfl (wnt_none rfl) (fun w cx => v_move rfl hs13) ?_
        refine pu_one rfl (wnt_none rfl) (fun w cx => v_move rfl hs0) ?_
        refine pu_one rfl (wnt_none rfl) (fun w cx => v_move rfl hs13) ?_
        refine pu_one rfl (wnt_none rfl) (fun w cx => v_add rfl rfl rfl (by omega) (by omega)) ?_
        refine pu_one rfl (wnt_none rfl) (fun w cx => v_move rfl hs0) ?_
        refine pu_one rfl (wnt_none rfl) (fun w cx => v_move rfl hs13) ?_
        refine pu_one rfl (wnt_none rfl) (fun w cx => v_add rfl rfl rfl (by omega) (by omega)) ?_
        refine pu_one rfl (wnt_none rfl) (fun w cx => v_ia Try.underlying31 sz77 rfl hv rfl (by omega) (by omega)) ?_
        refine pu_one rfl (wnt_none rfl) (fun w cx => v_move rfl hs0) ?_
        refine pu_one rfl (wnt_none rfl) (fun w cx => v_move rfl hs13) ?_
        refine pu_one rfl (wnt_none rfl) (fun w cx => v_ia Try.underlying31 sz77 rfl hv rfl (by omega) (by omega)) ?_
        refine pu_nil ?_; intro w cx hwD11
        refine x_two (i := 9) (j := 13) (by kernel_rfl) rfl rfl ?_ ?_
        · skip
          refine s_val rfl rfl (v_load rfl rfl Try.underlying77 rfl sz77 (cx.elV hv hRs1 hlen hgy') hry.len) ?_
          refine x_next ⟨.inl (Ctx.sub0 cx), ?_⟩
          refine x_one (i := 13) (by kernel_rfl) rfl ?_
          refine s_val rfl rfl (v_load rfl rfl Try.underlying77 rfl sz77 (cx.elV hv hRs1 hlen hgx') hrx.len) ?_
          refine x_next ⟨.inl (Ctx.sub0 cx), ?_⟩
          refine x_one (i := 14) (by kernel_rfl) rfl ?_
          refine s_val rfl rfl (v_ia Try.underlying31 sz77 rfl hv rfl (by omega) (by omega)) ?_
          refine x_next ⟨.inl (Ctx.sub0 cx), ?_⟩
          refine x_one (i := 15) (by kernel_rfl) rfl ?_
          refine s_storeElV hv cx rfl rfl rfl rfl rfl sz77 hRs1 hlen hix hry ?_; intro w cx
          refine x_next ⟨.inl (Ctx.sub0 cx), ?_⟩
          refine x_one (i := 16) (by kernel_rfl) rfl ?_
          refine s_val rfl rfl (v_ia Try.underlying31 sz77 rfl hv rfl (by omega) (by omega)) ?_
          refine x_next ⟨.inr (by kernel_rfl), ?_⟩
          refine x_one (i := 17) (by kernel_rfl) rfl ?_
          refine s_storeElV hv cx rfl rfl rfl rfl rfl sz77 (Rw.set hRs1 _ hry) (by simpa using hlen) (by simpa using hjy) hrx ?_; intro w cx
          rw [sw_mid _ [] _ x y hi' hj'] at cx
          refine x_next ⟨.inr (by kernel_rfl), ?_⟩
          refine x_done (by kernel_rfl) ?_
          refine wp_region_lit ?_
          refine s_val rfl rfl (v_move rfl hs13) ?_
          refine s_val rfl rfl (v_add rfl rfl rfl (by omega) (by omega)) ?_
          refine s_val rfl rfl (v_assign rfl rfl) ?_
          refine wpList_nil ?_
          refine ⟨i - (t + 1), _, by omega, rfl, t + 1, rfl, hs0, hs1, hs2, hs3, hs4, hs10, by show Value.int .i64 _ = _; congr 1; omega, by omega, ?_⟩
          rw [hst']
          exact cx
        · skip
          refine s_val rfl rfl (v_load rfl rfl Try.underlying77 rfl sz77 (cx.elV hv hRs1 hlen hgx') hrx.len) ?_
          refine x_next ⟨.inl (Ctx.sub0 cx), ?_⟩
          refine x_one (i := 9) (by kernel_rfl) rfl ?_
          refine s_val rfl rfl (v_load rfl rfl Try.underlying77 rfl sz77 (cx.elV hv hRs1 hlen hgy') hry.len) ?_
          refine x_next ⟨.inl (Ctx.sub0 cx), ?_⟩
          refine x_one (i := 14) (by kernel_rfl) rfl ?_
          refine s_val rfl rfl (v_ia Try.underlying31 sz77 rfl hv rfl (by omega) (by omega)) ?_
          refine x_next ⟨.inl (Ctx.sub0 cx), ?_⟩
          refine x_one (i := 15) (by kernel_rfl) rfl ?_
          refine s_storeElV hv cx rfl rfl rfl rfl rfl sz77 hRs1 hlen hix hry ?_; intro w cx
          refine x_next ⟨.inl (Ctx.sub0 cx), ?_⟩
          refine x_one (i := 16) (by kernel_rfl) rfl ?_
          refine s_val rfl rfl (v_ia Try.underlying31 sz77 rfl hv rfl (by omega) (by omega)) ?_
          refine x_next ⟨.inr (by kernel_rfl), ?_⟩
          refine x_one (i := 17) (by kernel_rfl) rfl ?_
          refine s_storeElV hv cx rfl rfl rfl rfl rfl sz77 (Rw.set hRs1 _ hry) (by simpa using hlen) (by simpa using hjy) hrx ?_; intro w cx
          rw [sw_mid _ [] _ x y hi' hj'] at cx
          refine x_next ⟨.inr (by kernel_rfl), ?_⟩
          refine x_done (by kernel_rfl) ?_
          refine wp_region_lit ?_
          refine s_val rfl rfl (v_move rfl hs13) ?_
          refine s_val rfl rfl (v_add rfl rfl rfl (by omega) (by omega)) ?_
          refine s_val rfl rfl (v_assign rfl rfl) ?_
          refine wpList_nil ?_
          refine ⟨i - (t + 1), _, by omega, rfl, t + 1, rfl, hs0, hs1, hs2, hs3, hs4, hs10, by show Value.int .i64 _ = _; congr 1; omega, by omega, ?_⟩
          rw [hst']
          exact cx
      · skip
        try simp only [Bool.and_eq_true, Bool.or_eq_true, Bool.and_eq_false_iff, Bool.or_eq_false_iff, Bool.not_eq_true', Bool.not_eq_false', decide_eq_true_eq, decide_eq_false_iff_not, beq_iff_eq, beq_eq_false_iff_ne, bne_iff_ne, bne_eq_false_iff_eq, ne_eq, Classical.not_not] at hc58
        skip
        refine wp_exit ?_
        refine wp_ret ?_
        refine ret_no (.inl rfl) Try.results150 ?_
        obtain rfl : t = i := by omega
        exact ⟨_, hpt t, ins_at hY hjY (fun h => h1 h) (fun h => Lt.of_not (fun e => hdxy _ h e.symm) (h2 h)), cx⟩
  · skip
    try simp only [Bool.and_eq_true, Bool.or_eq_true, Bool.and_eq_false_iff, Bool.or_eq_false_iff, Bool.not_eq_true', Bool.not_eq_false', decide_eq_true_eq, decide_eq_false_iff_not, beq_iff_eq, beq_eq_false_iff_ne, bne_iff_ne, bne_eq_false_iff_eq, ne_eq, Classical.not_not] at hc28
    skip
    refine wp_skip ?_
    refine wp_seq ?_
    refine wp_seq ?_
    refine wp_region_lit ?_
    refine s_val rfl rfl (v_move rfl rfl) ?_
    refine s_val rfl rfl (v_move rfl rfl) ?_
    refine s_val rfl rfl (v_sub rfl rfl rfl (by omega) (by omega)) ?_
    refine s_val rfl rfl (v_cmp rfl rfl rfl rfl) ?_
    refine wpList_nil ?_
    refine c_split rfl (fun hc80 => ?_) (fun hc80 => ?_)
    · skip
      try simp only [Bool.and_eq_true, Bool.or_eq_true, Bool.and_eq_false_iff, Bool.or_eq_false_iff, Bool.not_eq_true', Bool.not_eq_false', decide_eq_true_eq, decide_eq_false_iff_not, beq_iff_eq, beq_eq_false_iff_ne, bne_iff_ne, bne_eq_false_iff_eq, ne_eq, Classical.not_not] at hc80
      obtain ⟨y, rfl⟩ : ∃ y, Y = [y] := List.length_eq_one_iff.1 (by omega)
      have hY1 : ([y] : Els).length = 1 := rfl
      have hry : Rw y := hRs y (by simp)
      have hgy : (A ++ (X ++ [y]) ++ B)[(m : Int).toNat]? = some y := atY (A := A) (X := X) (Y := [y]) (B := B) (q := m) (j := 0) (by omega) (by omega)
      have hdxy : ∀ i, i < X.length → rk (X.getD i []) ≠ rk y := fun i hi => hd.xy (j := 0) hi (by omega)
      have hpt : ∀ t, (X.take t ++ y :: X.drop t).Perm (X ++ [y]) := fun t => by
        have := List.perm_middle (a := y) (l₁ := X.take t) (l₂ := X.drop t)
        rw [List.take_append_drop] at this
        exact this.trans (List.perm_append_comm (l₁ := [y]) (l₂ := X))
      refine wp_seq ?_
      refine wp_region_lit ?_
      refine s_val rfl rfl (v_move rfl rfl) ?_
      refine s_val rfl rfl (v_assign rfl rfl) ?_
      refine wpList_nil ?_
      refine wp_seq ?_
      refine wp_region_lit ?_
      refine s_val rfl rfl (v_move rfl rfl) ?_
      refine s_val rfl rfl (v_assign rfl rfl) ?_
      refine wpList_nil ?_
      refine wp_seq ?_
      refine wp_block ?_
      refine w_loop (fun k f w1 => ∃ i j : Nat, k = j - i ∧ f 0 = v ∧ f 1 = .int .i64 a ∧ f 2 = .int .i64 m ∧ f 3 = .int .i64 b ∧ f 4 = FV ∧ f 14 = .int .i64 (a + i) ∧ f 15 = .int .i64 (a + j) ∧ i ≤ j ∧ j ≤ X.length ∧ (0 < i → ¬ Lt y (X.getD (i - 1) [])) ∧ (j < X.length → Lt y (X.getD j [])) ∧ Cxr wb w1 L (⟨77, 14, v, n, (A ++ (X ++ [y]) ++ B).flatten⟩ :: R)) (X.length) ?_ ?_
      · skip
        exact ⟨0, X.length, rfl, rfl, rfl, rfl, rfl, rfl, by show Value.int .i64 a = _; congr 1; omega, by show Value.int .i64 m = _; congr 1; omega, by omega, by omega, fun h => by omega, fun h => by omega, cx⟩
      intro gk15 f w hJ
      obtain ⟨i, j, hk, hs0, hs1, hs2, hs3, hs4, hs14, hs15, hij, hjX, h1, h2, cx⟩ := hJ
      refine wp_seq ?_
      refine wp_seq ?_
      refine wp_region_lit ?_
      refine s_val rfl rfl (v_move rfl hs14) ?_
      refine s_val rfl rfl (v_move rfl hs15) ?_
      refine s_val rfl rfl (v_cmp rfl rfl rfl rfl) ?_
      refine wpList_nil ?_
      refine c_split rfl (fun hc85 => ?_) (fun hc85 => ?_)
      · skip
        try simp only [Bool.and_eq_true, Bool.or_eq_true, Bool.and_eq_false_iff, Bool.or_eq_false_iff, Bool.not_eq_true', Bool.not_eq_false', decide_eq_true_eq, decide_eq_false_iff_not, beq_iff_eq, beq_eq_false_iff_ne, bne_iff_ne, bne_eq_false_iff_eq, ne_eq, Classical.not_not] at hc85
        have hgx := atX (A := A) (X := X) (Y := [y]) (B := B) (q := a + ((i + j) / 2 : Nat)) (j := (i + j) / 2) (by omega) (by omega)
        have hrx : Rw (X.getD ((i + j) / 2) []) := hRs _ (by simp only [List.mem_append]; exact .inl (.inr (.inl (getD_mem (by omega)))))
        refine wp_skip ?_
        refine wp_block ?_
        refine wp_seq ?_
        refine wp_region_lit ?_
        refine s_val rfl rfl (v_move rfl hs14) ?_
        refine s_val rfl rfl (v_move rfl hs15) ?_
        refine s_val rfl rfl (v_add rfl rfl rfl (by omega) (by omega)) ?_
        refine s_val rfl rfl (v_convQ rfl rfl Try.underlying3 Try.underlying170 (IntWalk.u64_in _ (by omega))) ?_
        refine s_val rfl rfl (v_shr1 rfl rfl rfl) ?_
        refine s_val rfl rfl (v_convQ rfl rfl Try.underlying170 Try.underlying3 (m' := a + ((i + j) / 2 : Nat)) (by rw [IntWalk.i64_in _ (by omega)]; omega)) ?_
        refine s_val rfl rfl (v_assign rfl rfl) ?_
        refine wpList_nil ?_
        refine wp_seq ?_
        refine w_quiet cx mixed (by kernel_rfl) ?_
        skip
        refine q_val rfl rfl (fun w cx hwQ => v_move rfl hs4) ?_
        refine q_val rfl rfl (fun w cx hwQ => v_move rfl hs0) ?_
        refine q_val rfl rfl (fun w cx hwQ => v_move rfl hs2) ?_
        refine q_val rfl rfl (fun w cx hwQ => v_ia Try.underlying31 sz77 rfl hv rfl (by omega) (by omega)) ?_
        refine q_val rfl rfl (fun w cx hwQ => v_load rfl rfl Try.underlying77 rfl sz77 (cx.elV hv hRs hn hgy) hry.len) ?_
        refine q_val rfl rfl (fun w cx hwQ => v_move rfl hs0) ?_
        refine q_val rfl rfl (fun w cx hwQ => v_move rfl rfl) ?_
        refine q_val rfl rfl (fun w cx hwQ => v_ia Try.underlying31 sz77 rfl hv rfl (by omega) (by omega)) ?_
        refine q_val rfl rfl (fun w cx hwQ => v_load rfl rfl Try.underlying77 rfl sz77 (cx.elV hv hRs hn hgx) hrx.len) ?_
        refine q_call rfl rfl (runs_fnv0 Try.func139 rfl rfl rfl rfl rfl) (fun w cx hwQ => c139 _ _ _ hry hrx) ?_
        refine q_val rfl rfl (fun w cx hwQ => v_cmp rfl rfl rfl rfl) ?_
        refine q_val rfl rfl (fun w cx hwQ => v_not rfl rfl) ?_
        refine q_nil ?_; rintro w ⟨cx, hwQ17⟩
        refine c_split rfl (fun hc103 => ?_) (fun hc103 => ?_)
        · skip
          try simp only [Bool.and_eq_true, Bool.or_eq_true, Bool.and_eq_false_iff, Bool.or_eq_false_iff, Bool.not_eq_true', Bool.not_eq_false', decide_eq_true_eq, decide_eq_false_iff_not, beq_iff_eq, beq_eq_false_iff_ne, bne_iff_ne, bne_eq_false_iff_eq, ne_eq, Classical.not_not] at hc103
          refine wp_region_lit ?_
          refine s_val rfl rfl (v_move rfl rfl) ?_
          refine s_val rfl rfl (v_add rfl rfl rfl (by omega) (by omega)) ?_
          refine s_val rfl rfl (v_assign rfl rfl) ?_
          refine wpList_nil ?_
          exact ⟨j - ((i + j) / 2 + 1), _, by omega, rfl, (i + j) / 2 + 1, j, rfl, hs0, hs1, hs2, hs3, hs4, by show Value.int .i64 _ = _; congr 1; omega, hs15, by omega, by omega, fun _ => by rw [Nat.add_sub_cancel]; exact hc103, h2, cx⟩
        · skip
          try simp only [Bool.and_eq_true, Bool.or_eq_true, Bool.and_eq_false_iff, Bool.or_eq_false_iff, Bool.not_eq_true', Bool.not_eq_false', decide_eq_true_eq, decide_eq_false_iff_not, beq_iff_eq, beq_eq_false_iff_ne, bne_iff_ne, bne_eq_false_iff_eq, ne_eq, Classical.not_not] at hc103
          refine wp_region_lit ?_
          refine s_val rfl rfl (v_move rfl rfl) ?_
          refine s_val rfl rfl (v_assign rfl rfl) ?_
          refine wpList_nil ?_
          exact ⟨(i + j) / 2 - i, _, by omega, rfl, i, (i + j) / 2, rfl, hs0, hs1, hs2, hs3, hs4, hs14, rfl, by omega, by omega, h1, fun _ => by unfold Lt; omega, cx⟩
      · skip
        try simp only [Bool.and_eq_true, Bool.or_eq_true, Bool.and_eq_false_iff, Bool.or_eq_false_iff, Bool.not_eq_true', Bool.not_eq_false', decide_eq_true_eq, decide_eq_false_iff_not, beq_iff_eq, beq_eq_false_iff_ne, bne_iff_ne, bne_eq_false_iff_eq, ne_eq, Classical.not_not] at hc85
        obtain rfl : i = j := by omega
        refine wp_exit ?_
        refine wp_seq ?_
        refine wp_seq ?_
        refine wp_region_lit ?_
        refine s_val rfl rfl (v_move rfl hs2) ?_
        refine s_val rfl rfl (v_assign rfl rfl) ?_
        refine wpList_nil ?_
        refine wp_block ?_
        refine w_loop (fun k f w1 => ∃ t : Nat, k = t - i ∧ f 0 = v ∧ f 1 = .int .i64 a ∧ f 2 = .int .i64 m ∧ f 3 = .int .i64 b ∧ f 4 = FV ∧ f 14 = .int .i64 (a + i) ∧ f 17 = .int .i64 (a + t) ∧ i ≤ t ∧ t ≤ X.length ∧ Cxr wb w1 L (⟨77, 14, v, n, (A ++ (X.take t ++ y :: X.drop t) ++ B).flatten⟩ :: R)) (X.length - i) ?_ ?_
        · skip
          exact ⟨X.length, rfl, hs0, hs1, hs2, hs3, hs4, hs14, by show Value.int .i64 m = _; congr 1; omega, by omega, by omega, by simpa using cx⟩
        intro gk21 f w hJ
        obtain ⟨t, hk, hs0, hs1, hs2, hs3, hs4, hs14, hs17, hti, htX, cx⟩ := hJ
        refine wp_seq ?_
        refine wp_seq ?_
        refine wp_region_lit ?_
        refine s_val rfl rfl (v_move rfl hs17) ?_
        refine s_val rfl rfl (v_move rfl hs14) ?_
        refine s_val rfl rfl (v_cmp rfl rfl rfl rfl) ?_
        refine wpList_nil ?_
        refine c_split rfl (fun hc110 => ?_) (fun hc110 => ?_)
        · skip
          try simp only [Bool.and_eq_true, Bool.or_eq_true, Bool.and_eq_false_iff, Bool.or_eq_false_iff, Bool.not_eq_true', Bool.not_eq_false', decide_eq_true_eq, decide_eq_false_iff_not, beq_iff_eq, beq_eq_false_iff_ne, bne_iff_ne, bne_eq_false_iff_eq, ne_eq, Classical.not_not] at hc110
          obtain ⟨z, hz, hXs, hXt, hXd⟩ := split_at (l := X) (i := t - 1) (by omega)
          rw [show t - 1 + 1 = t by omega] at hXs hXt hXd
          have hst : A ++ (X.take t ++ y :: X.drop t) ++ B = (A ++ X.take (t - 1)) ++ z :: ([] ++ y :: (X.drop t ++ B)) := by rw [hXt]; simp
          have hst' : A ++ (X.take (t - 1) ++ y :: X.drop (t - 1)) ++ B = (A ++ X.take (t - 1)) ++ y :: ([] ++ z :: (X.drop t ++ B)) := by rw [hXd]; simp
          have hlen : (A ++ (X.take t ++ y :: X.drop t) ++ B).length = n := by have := (hpt t).length_eq; rw [← hn]; simp only [List.length_append] at this ⊢; omega
          have hRs1 := Rw.mid hRs (hpt t)
          rw [hst] at cx hlen hRs1
          have hlP : (A ++ X.take (t - 1)).length + 1 = A.length + t := by simp; omega
          have hrz : Rw z := hRs1 z (by simp)
          have hi' : ((a + t - 1 : Int)).toNat = (A ++ X.take (t - 1)).length := by omega
          have hj' : ((a + t : Int)).toNat = (A ++ X.take (t - 1)).length + 1 + ([] : Els).length := by simp only [List.length_nil]; omega
          have hgz' := get_mid1 (A ++ X.take (t - 1)) [] (X.drop t ++ B) z y hi'
          have hgy' := get_mid2 (A ++ X.take (t - 1)) [] (X.drop t ++ B) z y hj'
          have hiz := (List.getElem?_eq_some_iff.1 hgz').1
          have hjy := (List.getElem?_eq_some_iff.1 hgy').1
          refine wp_skip ?_
          refine wp_seq ?_
          refine wp_block ?_
          refine w_ord cx (Ctx.sub0 cx) mixed [(0, 113), (1, 114), (2, 115), (3, 116), (4, 117), (5, 118), (6, 119), (7, 120), (8, 121), (10, 123), (11, 124), (12, 125)] #[true, true, true, true, true, true, true, true, true, false, true, true, true, false, false, false, false, false] (by kernel_rfl) (by kernel_rfl) (by kernel_rfl) (by kernel_rfl) ?_
          refine pu_one rfl (wnt_none rfl) (fun w cx => v_move rfl hs0) ?_
          refine pu_one rfl (wnt_none rfl) (fun w cx => v_move rfl hs17) ?_
          refine pu_one rfl (wnt_none rfl) (fun w cx => v_move rfl hs0) ?_
          refine pu_one rfl (wnt_none rfl) (fun w cx => v_move rfl hs17) ?_
          refine pu_one rfl (wnt_none rfl) (fun w cx => v_sub rfl rfl rfl (by omega) (by omega)) ?_
          refine pu_one rfl (wnt_none rfl) (fun w cx => v_move rfl hs0) ?_
          refine pu_one rfl (wnt_none rfl) (fun w cx => v_move rfl hs17) ?_
          refine pu_one rfl (wnt_none rfl) (fun w cx => v_sub rfl rfl rfl (by omega) (by omega)) ?_
          refine pu_one rfl (wnt_none rfl) (fun w cx => v_ia Try.underlying31 sz77 rfl hv rfl (by omega) (by omega)) ?_
          refine pu_one rfl (wnt_none rfl) (fun w cx => v_move rfl hs0) ?_
          refine pu_one rfl (wnt_none rfl) (fun w cx => v_move rfl hs17) ?_
          refine pu_one rfl (wnt_none rfl) (fun w cx => v_ia Try.underlying31 sz77 rfl hv rfl (by omega) (by omega)) ?_
          refine pu_nil ?_; intro w cx hwD23
          refine x_two (i := 9) (j := 13) (by kernel_rfl) rfl rfl ?_ ?_
          · skip
            refine s_val rfl rfl (v_load rfl rfl Try.underlying77 rfl sz77 (cx.elV hv hRs1 hlen hgz') hrz.len) ?_
            refine x_next ⟨.inl (Ctx.sub0 cx), ?_⟩
            refine x_one (i := 13) (by kernel_rfl) rfl ?_
            refine s_val rfl rfl (v_load rfl rfl Try.underlying77 rfl sz77 (cx.elV hv hRs1 hlen hgy') hry.len) ?_
            refine x_next ⟨.inl (Ctx.sub0 cx), ?_⟩
            refine x_one (i := 14) (by kernel_rfl) rfl ?_
            refine s_val rfl rfl (v_ia Try.underlying31 sz77 rfl hv rfl (by omega) (by omega)) ?_
            refine x_next ⟨.inl (Ctx.sub0 cx), ?_⟩
            refine x_one (i := 15) (by kernel_rfl) rfl ?_
            refine s_storeElV hv cx rfl rfl rfl rfl rfl sz77 hRs1 hlen hjy hrz ?_; intro w cx
            refine x_next ⟨.inl (Ctx.sub0 cx), ?_⟩
            refine x_one (i := 16) (by kernel_rfl) rfl ?_
            refine s_val rfl rfl (v_ia Try.underlying31 sz77 rfl hv rfl (by omega) (by omega)) ?_
            refine x_next ⟨.inr (by kernel_rfl), ?_⟩
            refine x_one (i := 17) (by kernel_rfl) rfl ?_
            refine s_storeElV hv cx rfl rfl rfl rfl rfl sz77 (Rw.set hRs1 _ hrz) (by simpa using hlen) (by simpa using hiz) hry ?_; intro w cx
            rw [sw_mid' _ [] _ z y hi' hj'] at cx
            refine x_next ⟨.inr (by kernel_rfl), ?_⟩
            refine x_done (by kernel_rfl) ?_
            refine wp_region_lit ?_
            refine s_val rfl rfl (v_move rfl hs17) ?_
            refine s_val rfl rfl (v_sub rfl rfl rfl (by omega) (by omega)) ?_
            refine s_val rfl rfl (v_assign rfl rfl) ?_
            refine wpList_nil ?_
            refine ⟨t - 1 - i, _, by omega, rfl, t - 1, rfl, hs0, hs1, hs2, hs3, hs4, hs14, by show Value.int .i64 _ = _; congr 1; omega, by omega, by omega, ?_⟩
            rw [hst']
            exact cx
          · skip
            refine s_val rfl rfl (v_load rfl rfl Try.underlying77 rfl sz77 (cx.elV hv hRs1 hlen hgy') hry.len) ?_
            refine x_next ⟨.inl (Ctx.sub0 cx), ?_⟩
            refine x_one (i := 9) (by kernel_rfl) rfl ?_
            refine s_val rfl rfl (v_load rfl rfl Try.underlying77 rfl sz77 (cx.elV hv hRs1 hlen hgz') hrz.len) ?_
            refine x_next ⟨.inl (Ctx.sub0 cx), ?_⟩
            refine x_one (i := 14) (by kernel_rfl) rfl ?_
            refine s_val rfl rfl (v_ia Try.underlying31 sz77 rfl hv rfl (by omega) (by omega)) ?_
            refine x_next ⟨.inl (Ctx.sub0 cx), ?_⟩
            refine x_one (i := 15) (by kernel_rfl) rfl ?_
            refine s_storeElV hv cx rfl rfl rfl rfl rfl sz77 hRs1 hlen hjy hrz ?_; intro w cx
            refine x_next ⟨.inl (Ctx.sub0 cx), ?_⟩
            refine x_one (i := 16) (by kernel_rfl) rfl ?_
            refine s_val rfl rfl (v_ia Try.underlying31 sz77 rfl hv rfl (by omega) (by omega)) ?_
            refine x_next ⟨.inr (by kernel_rfl), ?_⟩
            refine x_one (i := 17) (by kernel_rfl) rfl ?_
            refine s_storeElV hv cx rfl rfl rfl rfl rfl sz77 (Rw.set hRs1 _ hrz) (by simpa using hlen) (by simpa using hiz) hry ?_; intro w cx
            rw [sw_mid' _ [] _ z y hi' hj'] at cx
            refine x_next ⟨.inr (by kernel_rfl), ?_⟩
            refine x_done (by kernel_rfl) ?_
            refine wp_region_lit ?_
            refine s_val rfl rfl (v_move rfl hs17) ?_
            refine s_val rfl rfl (v_sub rfl rfl rfl (by omega) (by omega)) ?_
            refine s_val rfl rfl (v_assign rfl rfl) ?_
            refine wpList_nil ?_
            refine ⟨t - 1 - i, _, by omega, rfl, t - 1, rfl, hs0, hs1, hs2, hs3, hs4, hs14, by show Value.int .i64 _ = _; congr 1; omega, by omega, by omega, ?_⟩
            rw [hst']
            exact cx
        · skip
          try simp only [Bool.and_eq_true, Bool.or_eq_true, Bool.and_eq_false_iff, Bool.or_eq_false_iff, Bool.not_eq_true', Bool.not_eq_false', decide_eq_true_eq, decide_eq_false_iff_not, beq_iff_eq, beq_eq_false_iff_ne, bne_iff_ne, bne_eq_false_iff_eq, ne_eq, Classical.not_not] at hc110
          skip
          refine wp_exit ?_
          refine wp_ret ?_
          refine ret_no (.inl rfl) Try.results150 ?_
          obtain rfl : t = i := by omega
          exact ⟨_, hpt t, ins_at hX hjX (fun h => Lt.of_not (fun e => hdxy _ (by omega) e.symm) (h1 h)) (fun h => h2 h), cx⟩
    · skip
      try simp only [Bool.and_eq_true, Bool.or_eq_true, Bool.and_eq_false_iff, Bool.or_eq_false_iff, Bool.not_eq_true', Bool.not_eq_false', decide_eq_true_eq, decide_eq_false_iff_not, beq_iff_eq, beq_eq_false_iff_ne, bne_iff_ne, bne_eq_false_iff_eq, ne_eq, Classical.not_not] at hc80
      have hX2 : 2 ≤ X.length := by omega
      have hY2 : 2 ≤ Y.length := by omega
      obtain ⟨mo, hmo⟩ : ∃ mo : Nat, mo = (X.length + Y.length) / 2 := ⟨_, rfl⟩
      have hmid : ((a + b) / 2 : Int) = a + mo := by omega
      refine wp_skip ?_
      refine wp_seq ?_
      refine wp_region_lit ?_
      refine s_val rfl rfl (v_move rfl rfl) ?_
      refine s_val rfl rfl (v_move rfl rfl) ?_
      refine s_val rfl rfl (v_add rfl rfl rfl (by omega) (by omega)) ?_
      refine s_val rfl rfl (v_convQ rfl rfl Try.underlying3 Try.underlying170 (IntWalk.u64_in _ (by omega))) ?_
      refine s_val rfl rfl (v_shr1 rfl rfl rfl) ?_
      refine s_val rfl rfl (v_convQ rfl rfl Try.underlying170 Try.underlying3 (m' := a + mo) (by rw [IntWalk.i64_in _ (by omega)]; omega)) ?_
      refine s_val rfl rfl (v_assign rfl rfl) ?_
      refine wpList_nil ?_
      refine wp_seq ?_
      refine wp_region_lit ?_
      refine s_val rfl rfl (v_move rfl rfl) ?_
      refine s_val rfl rfl (v_move rfl rfl) ?_
      refine s_val rfl rfl (v_add rfl rfl rfl (by omega) (by omega)) ?_
      refine s_val rfl rfl (v_assign rfl rfl) ?_
      refine wpList_nil ?_
      refine wp_seq ?_
      refine wp_region_lit ?_
      refine s_val rfl rfl (v_assign rfl rfl) ?_
      refine s_val rfl rfl (v_assign rfl rfl) ?_
      refine wpList_nil ?_
      refine w_cut (fun f w1 => ∃ so ro : Nat, f 0 = v ∧ f 1 = .int .i64 a ∧ f 2 = .int .i64 m ∧ f 3 = .int .i64 b ∧ f 4 = FV ∧ f 18 = .int .i64 (a + mo) ∧ f 19 = .int .i64 (a + mo + m) ∧ f 20 = .int .i64 (a + so) ∧ f 21 = .int .i64 (a + ro) ∧ so ≤ ro ∧ ro ≤ X.length ∧ ro ≤ mo ∧ mo ≤ so + Y.length ∧ (so = 0 ∨ mo = so + Y.length) ∧ (ro = X.length ∨ ro = mo) ∧ Cxr wb w1 L (⟨77, 14, v, n, (A ++ (X ++ Y) ++ B).flatten⟩ :: R)) ?_ ?_
      · skip
        refine wp_seq ?_
        refine wp_region_lit ?_
        refine s_val rfl rfl (v_move rfl rfl) ?_
        refine s_val rfl rfl (v_move rfl rfl) ?_
        refine s_val rfl rfl (v_cmp rfl rfl rfl rfl) ?_
        refine wpList_nil ?_
        refine c_split rfl (fun hc140 => ?_) (fun hc140 => ?_)
        · skip
          try simp only [Bool.and_eq_true, Bool.or_eq_true, Bool.and_eq_false_iff, Bool.or_eq_false_iff, Bool.not_eq_true', Bool.not_eq_false', decide_eq_true_eq, decide_eq_false_iff_not, beq_iff_eq, beq_eq_false_iff_ne, bne_iff_ne, bne_eq_false_iff_eq, ne_eq, Classical.not_not] at hc140
          refine wp_seq ?_
          refine wp_region_lit ?_
          refine s_val rfl rfl (v_move rfl rfl) ?_
          refine s_val rfl rfl (v_move rfl rfl) ?_
          refine s_val rfl rfl (v_sub rfl rfl rfl (by omega) (by omega)) ?_
          refine s_val rfl rfl (v_assign rfl rfl) ?_
          refine wpList_nil ?_
          refine wp_region_lit ?_
          refine s_val rfl rfl (v_move rfl rfl) ?_
          refine s_val rfl rfl (v_assign rfl rfl) ?_
          refine wpList_nil ?_
          first
          | exact ⟨_, rfl, mo - Y.length, mo, rfl, rfl, rfl, rfl, rfl, rfl, rfl, by show Value.int .i64 _ = _; congr 1; omega, rfl, by omega, by omega, by omega, by omega, by omega, by omega, cx⟩
          | exact ⟨_, rfl, 0, X.length, rfl, rfl, rfl, rfl, rfl, rfl, rfl, by show Value.int .i64 _ = _; congr 1; omega, by show Value.int .i64 _ = _; congr 1; omega, by omega, by omega, by omega, by omega, by omega, by omega, cx⟩
        · skip
          try simp only [Bool.and_eq_true, Bool.or_eq_true, Bool.and_eq_false_iff, Bool.or_eq_false_iff, Bool.not_eq_true', Bool.not_eq_false', decide_eq_true_eq, decide_eq_false_iff_not, beq_iff_eq, beq_eq_false_iff_ne, bne_iff_ne, bne_eq_false_iff_eq, ne_eq, Classical.not_not] at hc140
          refine wp_seq ?_
          refine wp_region_lit ?_
          refine s_val rfl rfl (v_move rfl rfl) ?_
          refine s_val rfl rfl (v_assign rfl rfl) ?_
          refine wpList_nil ?_
          refine wp_region_lit ?_
          refine s_val rfl rfl (v_move rfl rfl) ?_
          refine s_val rfl rfl (v_assign rfl rfl) ?_
          refine wpList_nil ?_
          first
          | exact ⟨_, rfl, mo - Y.length, mo, rfl, rfl, rfl, rfl, rfl, rfl, rfl, by show Value.int .i64 _ = _; congr 1; omega, rfl, by omega, by omega, by omega, by omega, by omega, by omega, cx⟩
          | exact ⟨_, rfl, 0, X.length, rfl, rfl, rfl, rfl, rfl, rfl, rfl, by show Value.int .i64 _ = _; congr 1; omega, by show Value.int .i64 _ = _; congr 1; omega, by omega, by omega, by omega, by omega, by omega, by omega, cx⟩
      intro f w hJ
      obtain ⟨so, ro, hs0, hs1, hs2, hs3, hs4, hs18, hs19, hs20, hs21, hsr, hroX, hrom, hmoY, hso, hro, cx⟩ := hJ
      refine wp_seq ?_
      refine wp_region_lit ?_
      refine s_val rfl rfl (v_move rfl hs19) ?_
      refine s_val rfl rfl (v_sub rfl rfl rfl (by omega) (by omega)) ?_
      refine s_val rfl rfl (v_assign rfl rfl) ?_
      refine wpList_nil ?_
      refine wp_seq ?_
      refine wp_block ?_
      refine w_loop (fun k f w1 => ∃ s r : Nat, k = r - s ∧ f 0 = v ∧ f 1 = .int .i64 a ∧ f 2 = .int .i64 m ∧ f 3 = .int .i64 b ∧ f 4 = FV ∧ f 18 = .int .i64 (a + mo) ∧ f 19 = .int .i64 (a + mo + m) ∧ f 20 = .int .i64 (a + s) ∧ f 21 = .int .i64 (a + r) ∧ f 22 = .int .i64 (a + mo + m - 1) ∧ so ≤ s ∧ s ≤ r ∧ r ≤ ro ∧ (so < s → ¬ Lt (Y.getD (mo - s) []) (X.getD (s - 1) [])) ∧ (r < ro → Lt (Y.getD (mo - 1 - r) []) (X.getD r [])) ∧ Cxr wb w1 L (⟨77, 14, v, n, (A ++ (X ++ Y) ++ B).flatten⟩ :: R)) (ro - so) ?_ ?_
      · skip
        exact ⟨so, ro, rfl, hs0, hs1, hs2, hs3, hs4, hs18, hs19, hs20, hs21, rfl, by omega, by omega, by omega, fun h => by omega, fun h => by omega, cx⟩
      intro gk33 f w hJ
      obtain ⟨s, r, hk, hs0, hs1, hs2, hs3, hs4, hs18, hs19, hs20, hs21, hs22, hsos, hsr', hrro, h1, h2, cx⟩ := hJ
      refine wp_seq ?_
      refine wp_seq ?_
      refine wp_region_lit ?_
      refine s_val rfl rfl (v_move rfl hs20) ?_
      refine s_val rfl rfl (v_move rfl hs21) ?_
      refine s_val rfl rfl (v_cmp rfl rfl rfl rfl) ?_
      refine wpList_nil ?_
      refine c_split rfl (fun hc151 => ?_) (fun hc151 => ?_)
      · skip
        try simp only [Bool.and_eq_true, Bool.or_eq_true, Bool.and_eq_false_iff, Bool.or_eq_false_iff, Bool.not_eq_true', Bool.not_eq_false', decide_eq_true_eq, decide_eq_false_iff_not, beq_iff_eq, beq_eq_false_iff_ne, bne_iff_ne, bne_eq_false_iff_eq, ne_eq, Classical.not_not] at hc151
        obtain ⟨c, hcd⟩ : ∃ c : Nat, c = (s + r) / 2 := ⟨_, rfl⟩
        have hc : c < r ∧ s ≤ c := by omega
        have hgx := atX (A := A) (X := X) (Y := Y) (B := B) (q := a + (c : Nat)) (j := c) (by omega) (by omega)
        have hrx : Rw (X.getD c []) := hRs _ (by simp only [List.mem_append]; exact .inl (.inr (.inl (getD_mem (by omega)))))
        have hgy := atY (A := A) (X := X) (Y := Y) (B := B) (q := a + mo + m - 1 - (a + (c : Nat))) (j := mo - 1 - c) (by omega) (by omega)
        have hry : Rw (Y.getD (mo - 1 - c) []) := hRs _ (by simp only [List.mem_append]; exact .inl (.inr (.inr (getD_mem (by omega)))))
        refine wp_skip ?_
        refine wp_block ?_
        refine wp_seq ?_
        refine wp_region_lit ?_
        refine s_val rfl rfl (v_move rfl hs20) ?_
        refine s_val rfl rfl (v_move rfl hs21) ?_
        refine s_val rfl rfl (v_add rfl rfl rfl (by omega) (by omega)) ?_
        refine s_val rfl rfl (v_convQ rfl rfl Try.underlying3 Try.underlying170 (IntWalk.u64_in _ (by omega))) ?_
        refine s_val rfl rfl (v_shr1 rfl rfl rfl) ?_
        refine s_val rfl rfl (v_convQ rfl rfl Try.underlying170 Try.underlying3 (m' := a + (c : Nat)) (by rw [IntWalk.i64_in _ (by omega)]; omega)) ?_
        refine s_val rfl rfl (v_assign rfl rfl) ?_
        refine wpList_nil ?_
        refine wp_seq ?_
        refine w_quiet cx mixed (by kernel_rfl) ?_
        skip
        refine q_val rfl rfl (fun w cx hwQ => v_move rfl hs4) ?_
        refine q_val rfl rfl (fun w cx hwQ => v_move rfl hs0) ?_
        refine q_val rfl rfl (fun w cx hwQ => v_move rfl hs22) ?_
        refine q_val rfl rfl (fun w cx hwQ => v_move rfl rfl) ?_
        refine q_val rfl rfl (fun w cx hwQ => v_sub rfl rfl rfl (by omega) (by omega)) ?_
        refine q_val rfl rfl (fun w cx hwQ => v_ia Try.underlying31 sz77 rfl hv rfl (by omega) (by omega)) ?_
        refine q_val rfl rfl (fun w cx hwQ => v_load rfl rfl Try.underlying77 rfl sz77 (cx.elV hv hRs hn hgy) hry.len) ?_
        refine q_val rfl rfl (fun w cx hwQ => v_move rfl hs0) ?_
        refine q_val rfl rfl (fun w cx hwQ => v_move rfl rfl) ?_
        refine q_val rfl rfl (fun w cx hwQ => v_ia Try.underlying31 sz77 rfl hv rfl (by omega) (by omega)) ?_
        refine q_val rfl rfl (fun w cx hwQ => v_load rfl rfl Try.underlying77 rfl sz77 (cx.elV hv hRs hn hgx) hrx.len) ?_
        refine q_call rfl rfl (runs_fnv0 Try.func139 rfl rfl rfl rfl rfl) (fun w cx hwQ => c139 _ _ _ hry hrx) ?_
        refine q_val rfl rfl (fun w cx hwQ => v_cmp rfl rfl rfl rfl) ?_
        refine q_val rfl rfl (fun w cx hwQ => v_not rfl rfl) ?_
        refine q_nil ?_; rintro w ⟨cx, hwQ35⟩
        refine c_split rfl (fun hc171 => ?_) (fun hc171 => ?_)
        · skip
          try simp only [Bool.and_eq_true, Bool.or_eq_true, Bool.and_eq_false_iff, Bool.or_eq_false_iff, Bool.not_eq_true', Bool.not_eq_false', decide_eq_true_eq, decide_eq_false_iff_not, beq_iff_eq, beq_eq_false_iff_ne, bne_iff_ne, bne_eq_false_iff_eq, ne_eq, Classical.not_not] at hc171
          refine wp_region_lit ?_
          refine s_val rfl rfl (v_move rfl rfl) ?_
          refine s_val rfl rfl (v_add rfl rfl rfl (by omega) (by omega)) ?_
          refine s_val rfl rfl (v_assign rfl rfl) ?_
          refine wpList_nil ?_
          refine ⟨r - (c + 1), _, by omega, rfl, c + 1, r, rfl, hs0, hs1, hs2, hs3, hs4, hs18, hs19, by show Value.int .i64 _ = _; congr 1; omega, hs21, hs22, by omega, by omega, by omega, fun _ => ?_, h2, cx⟩
          rw [Nat.add_sub_cancel, show mo - (c + 1) = mo - 1 - c by omega]
          exact hc171
        · skip
          try simp only [Bool.and_eq_true, Bool.or_eq_true, Bool.and_eq_false_iff, Bool.or_eq_false_iff, Bool.not_eq_true', Bool.not_eq_false', decide_eq_true_eq, decide_eq_false_iff_not, beq_iff_eq, beq_eq_false_iff_ne, bne_iff_ne, bne_eq_false_iff_eq, ne_eq, Classical.not_not] at hc171
          refine wp_region_lit ?_
          refine s_val rfl rfl (v_move rfl rfl) ?_
          refine s_val rfl rfl (v_assign rfl rfl) ?_
          refine wpList_nil ?_
          exact ⟨c - s, _, by omega, rfl, s, c, rfl, hs0, hs1, hs2, hs3, hs4, hs18, hs19, hs20, rfl, hs22, by omega, by omega, by omega, h1, fun _ => by unfold Lt; omega, cx⟩
      · skip
        try simp only [Bool.and_eq_true, Bool.or_eq_true, Bool.and_eq_false_iff, Bool.or_eq_false_iff, Bool.not_eq_true', Bool.not_eq_false', decide_eq_true_eq, decide_eq_false_iff_not, beq_iff_eq, beq_eq_false_iff_ne, bne_iff_ne, bne_eq_false_iff_eq, ne_eq, Classical.not_not] at hc151
        obtain rfl : s = r := by omega
        obtain ⟨e, he⟩ : ∃ e : Nat, e = mo - s := ⟨_, rfl⟩
        have hsX : s ≤ X.length := by omega
        have heY : e ≤ Y.length := by omega
        have hc1 : 0 < s → e < Y.length → Lt (X.getD (s - 1) []) (Y.getD e []) := fun h0 h3 => by
          have := h1 (by omega)
          rw [← he] at this
          exact Lt.of_not (fun e' => hd.xy (by omega) h3 e'.symm) this
        have hc2 : 0 < e → s < X.length → Lt (Y.getD (e - 1) []) (X.getD s []) := fun h0 h3 => by
          have := h2 (by omega)
          rwa [show mo - 1 - s = e - 1 by omega] at this
        have hend : a + mo + m - (a + (s : Nat)) = m + e := by omega
        refine wp_exit ?_
        refine wp_seq ?_
        refine wp_region_lit ?_
        refine s_val rfl rfl (v_move rfl hs19) ?_
        refine s_val rfl rfl (v_move rfl hs20) ?_
        refine s_val rfl rfl (v_sub rfl rfl rfl (by omega) (by omega)) ?_
        refine s_val rfl rfl (v_assign rfl rfl) ?_
        refine wpList_nil ?_
        refine w_cut (fun f w1 => f 0 = v ∧ f 1 = .int .i64 a ∧ f 2 = .int .i64 m ∧ f 3 = .int .i64 b ∧ f 4 = FV ∧ f 18 = .int .i64 (a + mo) ∧ f 20 = .int .i64 (a + s) ∧ f 24 = .int .i64 (m + e) ∧ Cxr wb w1 L (⟨77, 14, v, n, (A ++ ((X.take s ++ Y.take e) ++ (X.drop s ++ Y.drop e)) ++ B).flatten⟩ :: R)) ?_ ?_
        · skip
          refine wp_seq ?_
          refine wp_region_lit ?_
          refine s_val rfl rfl (v_move rfl hs20) ?_
          refine s_val rfl rfl (v_move rfl hs2) ?_
          refine s_val rfl rfl (v_cmp rfl rfl rfl rfl) ?_
          refine s_val rfl rfl (v_move rfl rfl) ?_
          refine s_gval rfl rfl rfl (by first | exact w_tt rfl | exact w_gt rfl) (fun hc => v_move rfl hs2) ?_
          refine s_gval rfl rfl rfl (by first | exact w_tt rfl | exact w_gt rfl) (fun hc => v_move rfl (by first | exact gve hc rfl | exact gve (and_l hc) rfl | exact gve (and_l (and_l hc)) rfl | rfl)) ?_
          refine s_gval rfl rfl rfl (by first | exact w_tt rfl | exact w_gt rfl) (fun hc => v_cmp rfl (by first | exact gve hc rfl | exact gve (and_l hc) rfl | exact gve (and_l (and_l hc)) rfl | rfl) (by first | exact gve hc rfl | exact gve (and_l hc) rfl | exact gve (and_l (and_l hc)) rfl | rfl) rfl) ?_
          refine s_val rfl rfl (v_and rfl rfl rfl rfl) ?_
          refine wpList_nil ?_
          refine c_split rfl (fun hc185 => ?_) (fun hc185 => ?_)
          · skip
            try simp only [Bool.and_eq_true, Bool.or_eq_true, Bool.and_eq_false_iff, Bool.or_eq_false_iff, Bool.not_eq_true', Bool.not_eq_false', decide_eq_true_eq, decide_eq_false_iff_not, beq_iff_eq, beq_eq_false_iff_ne, bne_iff_ne, bne_eq_false_iff_eq, ne_eq, Classical.not_not] at hc185
            refine wp_region_lit ?_
            skip
            refine s_val rfl rfl (v_move rfl hs0) ?_
            refine s_val rfl rfl (v_move rfl hs20) ?_
            refine s_val rfl rfl (v_move rfl hs2) ?_
            refine s_val rfl rfl (v_move rfl rfl) ?_
            refine s_val rfl rfl (v_move rfl hs4) ?_
            have er : A ++ (X ++ Y) ++ B = (A ++ X.take s) ++ X.drop s ++ Y.take e ++ (Y.drop e ++ B) := split_XY A X Y B s e
            rw [er] at cx
            refine s_callR rfl rfl (runs_fn Try.func153 rfl rfl rfl rfl) (c153 wb L R v FV n (A ++ X.take s) (X.drop s) (Y.take e) (Y.drop e ++ B) _ _ _ _ cx (by rw [← er]; exact hRs) (by rw [← er]; exact hn) hn1 (by rw [List.length_drop]; omega) (by rw [List.length_take]; omega) (by rw [List.length_append, List.length_take]; omega) (by rw [List.length_append, List.length_take, List.length_drop]; omega) (by simp only [List.length_append, List.length_take, List.length_drop]; omega)) ?_; intro q191 w cx
            refine wpList_nil ?_
            first
            | exact ⟨_, rfl, hs0, hs1, hs2, hs3, hs4, hs18, hs20, by show Value.int .i64 _ = _; rw [hend], by simpa [List.append_assoc] using cx⟩
            | (have e1 : A ++ (X ++ Y) ++ B = A ++ ((X.take s ++ Y.take e) ++ (X.drop s ++ Y.drop e)) ++ B := by
                 rcases hc185 with h | h
                 · have : s = X.length := by omega
                   subst this
                   simp [List.append_assoc]
                 · have : e = 0 := by omega
                   rw [split_XY A X Y B s e, this]; simp only [List.append_assoc, List.take_zero, List.drop_zero, List.nil_append]
               rw [e1] at cx
               exact ⟨_, rfl, hs0, hs1, hs2, hs3, hs4, hs18, hs20, by show Value.int .i64 _ = _; rw [hend], cx⟩)
          · skip
            try simp only [Bool.and_eq_true, Bool.or_eq_true, Bool.and_eq_false_iff, Bool.or_eq_false_iff, Bool.not_eq_true', Bool.not_eq_false', decide_eq_true_eq, decide_eq_false_iff_not, beq_iff_eq, beq_eq_false_iff_ne, bne_iff_ne, bne_eq_false_iff_eq, ne_eq, Classical.not_not] at hc185
            refine wp_skip ?_
            first
            | exact ⟨_, rfl, hs0, hs1, hs2, hs3, hs4, hs18, hs20, by show Value.int .i64 _ = _; rw [hend], by simpa [List.append_assoc] using cx⟩
            | (have e1 : A ++ (X ++ Y) ++ B = A ++ ((X.take s ++ Y.take e) ++ (X.drop s ++ Y.drop e)) ++ B := by
                 rcases hc185 with h | h
                 · have : s = X.length := by omega
                   subst this
                   simp [List.append_assoc]
                 · have : e = 0 := by omega
                   rw [split_XY A X Y B s e, this]; simp only [List.append_assoc, List.take_zero, List.drop_zero, List.nil_append]
               rw [e1] at cx
               exact ⟨_, rfl, hs0, hs1, hs2, hs3, hs4, hs18, hs20, by show Value.int .i64 _ = _; rw [hend], cx⟩)
        intro f w hJ
        obtain ⟨hs0, hs1, hs2, hs3, hs4, hs18, hs20, hs24, cx⟩ := hJ
        refine w_cut (fun f w1 => ∃ Z1 : Els, f 0 = v ∧ f 1 = .int .i64 a ∧ f 2 = .int .i64 m ∧ f 3 = .int .i64 b ∧ f 4 = FV ∧ f 18 = .int .i64 (a + mo) ∧ f 20 = .int .i64 (a + s) ∧ f 24 = .int .i64 (m + e) ∧ Z1.Perm (X.take s ++ Y.take e) ∧ Z1.Pairwise Lt ∧ Cxr wb w1 L (⟨77, 14, v, n, (A ++ (Z1 ++ (X.drop s ++ Y.drop e)) ++ B).flatten⟩ :: R)) ?_ ?_
        · skip
          refine wp_seq ?_
          refine wp_region_lit ?_
          refine s_val rfl rfl (v_move rfl hs1) ?_
          refine s_val rfl rfl (v_move rfl hs20) ?_
          refine s_val rfl rfl (v_cmp rfl rfl rfl rfl) ?_
          refine s_val rfl rfl (v_move rfl rfl) ?_
          refine s_gval rfl rfl rfl (by first | exact w_tt rfl | exact w_gt rfl) (fun hc => v_move rfl hs20) ?_
          refine s_gval rfl rfl rfl (by first | exact w_tt rfl | exact w_gt rfl) (fun hc => v_move rfl hs18) ?_
          refine s_gval rfl rfl rfl (by first | exact w_tt rfl | exact w_gt rfl) (fun hc => v_cmp rfl (by first | exact gve hc rfl | exact gve (and_l hc) rfl | exact gve (and_l (and_l hc)) rfl | rfl) (by first | exact gve hc rfl | exact gve (and_l hc) rfl | exact gve (and_l (and_l hc)) rfl | rfl) rfl) ?_
          refine s_val rfl rfl (v_and rfl rfl rfl rfl) ?_
          refine wpList_nil ?_
          refine c_split rfl (fun hc199 => ?_) (fun hc199 => ?_)
          · skip
            try simp only [Bool.and_eq_true, Bool.or_eq_true, Bool.and_eq_false_iff, Bool.or_eq_false_iff, Bool.not_eq_true', Bool.not_eq_false', decide_eq_true_eq, decide_eq_false_iff_not, beq_iff_eq, beq_eq_false_iff_ne, bne_iff_ne, bne_eq_false_iff_eq, ne_eq, Classical.not_not] at hc199
            refine wp_region_lit ?_
            have hpm : ((X.take s ++ Y.take e) ++ (X.drop s ++ Y.drop e)).Perm (X ++ Y) := by
              have := perm4 (X.take s) (X.drop s) (Y.take e) (Y.drop e)
              rwa [List.take_append_drop, List.take_append_drop] at this
            have hlm : (A ++ ((X.take s ++ Y.take e) ++ (X.drop s ++ Y.drop e)) ++ B).length = n := by rw [← hn, List.length_append, List.length_append, hpm.length_eq]; simp; omega
            refine s_val rfl rfl (v_move rfl hs0) ?_
            refine s_val rfl rfl (v_move rfl hs1) ?_
            refine s_val rfl rfl (v_move rfl hs20) ?_
            refine s_val rfl rfl (v_move rfl hs18) ?_
            refine s_val rfl rfl (v_move rfl hs4) ?_
            have er : A ++ ((X.take s ++ Y.take e) ++ (X.drop s ++ Y.drop e)) ++ B = A ++ (X.take s ++ Y.take e) ++ ((X.drop s ++ Y.drop e) ++ B) := by simp [List.append_assoc]
            rw [er] at cx
            refine s_callR rfl rfl (runs_fn Try.func150 rfl rfl rfl rfl) (ih wb L R v n A (X.take s) (Y.take e) ((X.drop s ++ Y.drop e) ++ B) _ _ _ _ (by simp only [List.length_take]; omega) cx (by rw [← er]; exact Rw.mid hRs hpm) (by rw [← er]; exact hlm) hn1 (hd.sub ((List.take_sublist _ _).append (List.take_sublist _ _))) (List.Pairwise.sublist (List.take_sublist _ _) hX) (List.Pairwise.sublist (List.take_sublist _ _) hY) (by rw [List.length_take]; omega) (by rw [List.length_take]; omega) ha (by rw [List.length_take]; omega) (by rw [List.length_take, List.length_take]; omega)) ?_; intro q205 w hp205
            refine wpList_nil ?_
            first
            | (obtain ⟨Z1, hZ1, hsZ1, cx⟩ := hp205
               exact ⟨_, rfl, Z1, hs0, hs1, hs2, hs3, hs4, hs18, hs20, hs24, hZ1, hsZ1, by simpa [List.append_assoc] using cx⟩)
            | (refine ⟨_, rfl, X.take s ++ Y.take e, hs0, hs1, hs2, hs3, hs4, hs18, hs20, hs24, List.Perm.refl _, ?_, cx⟩
               by_cases h : s = 0
               · subst h
                 simpa using List.Pairwise.sublist (List.take_sublist _ _) hY
               · have h0 : e = 0 := by omega
                 rw [h0]
                 simpa using List.Pairwise.sublist (List.take_sublist _ _) hX)
          · skip
            try simp only [Bool.and_eq_true, Bool.or_eq_true, Bool.and_eq_false_iff, Bool.or_eq_false_iff, Bool.not_eq_true', Bool.not_eq_false', decide_eq_true_eq, decide_eq_false_iff_not, beq_iff_eq, beq_eq_false_iff_ne, bne_iff_ne, bne_eq_false_iff_eq, ne_eq, Classical.not_not] at hc199
            refine wp_skip ?_
            first
            | (obtain ⟨Z1, hZ1, hsZ1, cx⟩ := hp205
               exact ⟨_, rfl, Z1, hs0, hs1, hs2, hs3, hs4, hs18, hs20, hs24, hZ1, hsZ1, by simpa [List.append_assoc] using cx⟩)
            | (refine ⟨_, rfl, X.take s ++ Y.take e, hs0, hs1, hs2, hs3, hs4, hs18, hs20, hs24, List.Perm.refl _, ?_, cx⟩
               by_cases h : s = 0
               · subst h
                 simpa using List.Pairwise.sublist (List.take_sublist _ _) hY
               · have h0 : e = 0 := by omega
                 rw [h0]
                 simpa using List.Pairwise.sublist (List.take_sublist _ _) hX)
        intro f w hJ
        obtain ⟨Z1, hs0, hs1, hs2, hs3, hs4, hs18, hs20, hs24, hZ1, hsZ1, cx⟩ := hJ
        refine wp_seq ?_
        refine wp_region_lit ?_
        refine s_val rfl rfl (v_move rfl hs18) ?_
        refine s_val rfl rfl (v_move rfl hs24) ?_
        refine s_val rfl rfl (v_cmp rfl rfl rfl rfl) ?_
        refine s_val rfl rfl (v_move rfl rfl) ?_
        refine s_gval rfl rfl rfl (by first | exact w_tt rfl | exact w_gt rfl) (fun hc => v_move rfl hs24) ?_
        refine s_gval rfl rfl rfl (by first | exact w_tt rfl | exact w_gt rfl) (fun hc => v_move rfl hs3) ?_
        refine s_gval rfl rfl rfl (by first | exact w_tt rfl | exact w_gt rfl) (fun hc => v_cmp rfl (by first | exact gve hc rfl | exact gve (and_l hc) rfl | exact gve (and_l (and_l hc)) rfl | rfl) (by first | exact gve hc rfl | exact gve (and_l hc) rfl | exact gve (and_l (and_l hc)) rfl | rfl) rfl) ?_
        refine s_val rfl rfl (v_and rfl rfl rfl rfl) ?_
        refine wpList_nil ?_
        refine c_split rfl (fun hc213 => ?_) (fun hc213 => ?_)
        · skip
          try simp only [Bool.and_eq_true, Bool.or_eq_true, Bool.and_eq_false_iff, Bool.or_eq_false_iff, Bool.not_eq_true', Bool.not_eq_false', decide_eq_true_eq, decide_eq_false_iff_not, beq_iff_eq, beq_eq_false_iff_ne, bne_iff_ne, bne_eq_false_iff_eq, ne_eq, Classical.not_not] at hc213
          refine wp_region_lit ?_
          have hpm : ((X.take s ++ Y.take e) ++ (X.drop s ++ Y.drop e)).Perm (X ++ Y) := by
            have := perm4 (X.take s) (X.drop s) (Y.take e) (Y.drop e)
            rwa [List.take_append_drop, List.take_append_drop] at this
          have hlm : (A ++ ((X.take s ++ Y.take e) ++ (X.drop s ++ Y.drop e)) ++ B).length = n := by rw [← hn, List.length_append, List.length_append, hpm.length_eq]; simp; omega
          refine s_val rfl rfl (v_move rfl hs0) ?_
          refine s_val rfl rfl (v_move rfl hs18) ?_
          refine s_val rfl rfl (v_move rfl hs24) ?_
          refine s_val rfl rfl (v_move rfl hs3) ?_
          refine s_val rfl rfl (v_move rfl hs4) ?_
          have er : A ++ (Z1 ++ (X.drop s ++ Y.drop e)) ++ B = (A ++ Z1) ++ (X.drop s ++ Y.drop e) ++ B := by simp [List.append_assoc]
          rw [er] at cx
          have hlZ := hZ1.length_eq
          simp only [List.length_append, List.length_take] at hlZ
          refine s_callR rfl rfl (runs_fn Try.func150 rfl rfl rfl rfl) (ih wb L R v n (A ++ Z1) (X.drop s) (Y.drop e) B _ _ _ _ (by simp only [List.length_drop]; omega) cx (by rw [← er]; exact Rw.mid hRs ((List.Perm.append_right _ hZ1).trans hpm)) (by rw [← er, ← hlm]; simp only [List.length_append, List.length_take]; omega) hn1 (hd.sub ((List.drop_sublist _ _).append (List.drop_sublist _ _))) (List.Pairwise.sublist (List.drop_sublist _ _) hX) (List.Pairwise.sublist (List.drop_sublist _ _) hY) (by rw [List.length_drop]; omega) (by rw [List.length_drop]; omega) (by rw [List.length_append]; omega) (by rw [List.length_append, List.length_drop]; omega) (by simp only [List.length_append, List.length_drop]; omega)) ?_; intro q219 w hp219
          refine wpList_nil ?_
          refine ret_no (.inr rfl) Try.results150 ?_
          obtain ⟨Z2, hZ2, hsZ2, cx⟩ := hp219
          have hm2 := merge2G hX hY hsX heY hc1 hc2 hZ1 hZ2 hsZ1 hsZ2
          exact ⟨Z1 ++ Z2, hm2.2, hm2.1, by simpa [List.append_assoc] using cx⟩
        · skip
          try simp only [Bool.and_eq_true, Bool.or_eq_true, Bool.and_eq_false_iff, Bool.or_eq_false_iff, Bool.not_eq_true', Bool.not_eq_false', decide_eq_true_eq, decide_eq_false_iff_not, beq_iff_eq, beq_eq_false_iff_ne, bne_iff_ne, bne_eq_false_iff_eq, ne_eq, Classical.not_not] at hc213
          refine wp_skip ?_
          refine ret_no (.inr rfl) Try.results150 ?_
          have hsZ2 : (X.drop s ++ Y.drop e).Pairwise Lt := by
            by_cases h : s = X.length
            · rw [List.drop_eq_nil_of_le (by omega), List.nil_append]; exact List.Pairwise.sublist (List.drop_sublist _ _) hY
            · have he : e = Y.length := by omega
              rw [show Y.drop e = [] from List.drop_eq_nil_of_le (by omega), List.append_nil]; exact List.Pairwise.sublist (List.drop_sublist _ _) hX
          have hm2 := merge2G hX hY hsX heY hc1 hc2 hZ1 (List.Perm.refl _) hsZ1 hsZ2
          exact ⟨Z1 ++ (X.drop s ++ Y.drop e), hm2.2, hm2.1, by simpa [List.append_assoc] using cx⟩
end Go.Proofs.Ytmkihcdcgkdilaa
