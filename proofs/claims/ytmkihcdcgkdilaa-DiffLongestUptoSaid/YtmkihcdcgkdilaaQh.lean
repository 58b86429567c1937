/-
  Contracts: the lists that hold; the law of common elements.
-/
import Derived.Test.YtmkihcdcgkdilaaQg
import Derived.Test.YtmkihcdcgkdilaaCb
namespace Go.Proofs.Ytmkihcdcgkdilaa
open Go Go.Dk Go.RowKit
set_option linter.unusedSimpArgs false
set_option linter.unusedVariables false
attribute [local irreducible] Go.wpList Go.Code.wp Go.bodyPost Go.wpStill Go.wpQuiet
theorem classic_eqC : ∃ E : V → V → Bool, ∀ x y, E x y = true ↔ canon x = canon y := ⟨fun x y => @decide (canon x = canon y) (Classical.propDecidable _), fun x y => @decide_eq_true_iff _ (Classical.propDecidable _)⟩
theorem common_len (E : V → V → Bool) (a b : List V) : (common E a b).length ≤ a.length := by
  have hPa := nPre_a E a b
  have hSa := nSuf_a E a b
  have hlA := midL_len hSa
  have hMl := sel_len E (midL a (nPre E a b) (nSuf E a b)) (midL b (nPre E a b) (nSuf E a b)) (midL a (nPre E a b) (nSuf E a b)).length 0 0
  rw [hlA] at hMl
  unfold common
  rw [List.length_append, List.length_append, List.length_map, diag_len, ends_len]
  unfold mids
  rw [hlA]
  omega
def listV (l : List V) : V := .mk (zk 6) [] l []
theorem val_list {w : World} {s : Value} {l : List V} (h : Lst w s l) : Val w (listV l) (vrow (zk 6) (.slice none 0 0) s (.slice none 0 0)) :=
  RepV.mk (v := listV l) ⟨0, 0, .inl ⟨rfl, rfl⟩, fun j x hj => by simp [listV, V.bytes] at hj⟩ h ⟨0, 0, .inl ⟨rfl, rfl⟩, by simp [listV, V.fields, RepFs]⟩
theorem fine_list {l : List V} (hl : l.length ≤ 1048576) (h : ∀ x ∈ l, Fine x) : Fine (listV l) := by
  intro d
  cases d with
  | zero => trivial
  | succ d => exact ⟨by simp [listV, V.sc, zk], by simp [listV, V.sc, zk], by simp [listV, V.bytes], hl, by simp [listV, V.fields], fun x hx => h x hx d, fun x hx => by simp [listV, V.fields] at hx⟩
theorem sum_ge (f : V → Nat) (hf : ∀ x, 1 ≤ f x) : ∀ l : List V, l.length ≤ (l.map f).sum
  | [] => by simp
  | x :: l => by
    have := sum_ge f hf l
    have := hf x
    simp only [List.map_cons, List.sum_cons, List.length_cons]; omega
theorem list_small {l : List V} (h : tsz 60 (listV l) ≤ 150) : l.length ≤ 150 := by
  have h' : 1 + ((l.map (tsz 59)).sum + 0) ≤ 150 := h
  have := sum_ge (tsz 59) (tsz_pos 59) l
  omega
/-- what a list that holds is -/
def Okl (l : List V) : Prop := (∀ x ∈ l, okd 48 x) ∧ l.length ≤ 150 ∧ okd 48 (listV l) ∧ deep 60 (listV l) ∧ tsz 60 (listV l) ≤ 150
theorem okl_of {l : List V} (h : okd 48 (listV l) ∧ deep 60 (listV l) ∧ tsz 60 (listV l) ≤ 150) : Okl l :=
  ⟨fun x hx => okd_mono 47 48 x (h.1.2.2.1 x hx) (by omega), list_small h.2.2, h.1, h.2.1, h.2.2⟩
theorem bd33l (a : Option Addr) (n c : Nat) (w : World) : (Instr.build 33 ([(0, .int .i64 6), (6, .slice a n c)] : List (Nat × Value)).toArray).run Try.prog w = .ok (.agg (vrow (zk 6) (.slice none 0 0) (.slice a n c) (.slice none 0 0)).toArray) w := by
  unfold vrow zk
  go_simp
  rfl
theorem ne43 (a1 b1 a2 b2 : Int) (w : World) : (binOp .neq 43 (.agg #[.int .i64 a1, .int .i64 a2]) (.agg #[.int .i64 b1, .int .i64 b2])).run Try.prog w = .ok (.bool (!(a1 == b1 && a2 == b2))) w := by
  have e43 : (Op.equalIn 10000 43 (.agg #[.int .i64 a1, .int .i64 a2]) (.agg #[.int .i64 b1, .int .i64 b2])).run Try.prog w = .ok (a1 == b1 && a2 == b2) w := by
    have u3 := Try.underlying3
    have a3 := Try.isAgg3
    have z3 := Try.sizeOf3
    rw [show (10000 : Nat) = 9999 + 1 from rfl, Op.equalIn]
    simp only [Sem.run_bind, run_underlying Try.underlying43, Result.andThen_ok]
    simp only [Std.Legacy.Range.forIn_eq_forIn_range', Std.Legacy.Range.size, Nat.sub_zero, Nat.add_sub_cancel, Nat.div_one, List.range'_succ, List.range'_zero, List.forIn_cons, List.forIn_nil]
    go_simp
    by_cases h1 : a1 = b1 <;> by_cases h2 : a2 = b2 <;> simp [h1, h2]
  go_simp
theorem qflat_row {w : World} {g : Nat} {l : List (Nat × Nat)} {n : Nat} {q : Nat × Nat} (h : RowAt w g 0 (l.flatMap qrow)) (hn : l[n]? = some q) : RowAt w g (0 + ((n : Nat) : Int).toNat * 2) [.int .i64 (q.1 : Int), .int .i64 (q.2 : Int)] := by
  intro j x hj
  have h2 := qflat_at hn
  rw [Int.toNat_natCast, Nat.add_assoc]
  refine h _ _ ?_
  match j, hj with
  | 0, hj => simp only [List.getElem?_cons_zero, Option.some.injEq] at hj; subst hj; exact h2.1
  | 1, hj => simp only [List.getElem?_cons_succ, List.getElem?_cons_zero, Option.some.injEq] at hj; subst hj; exact h2.2

set_option maxRecDepth 10000 in
theorem c24 (a b : List V) (s1 s2 : Value) (w0 : World) (hla : Lst w0 s1 a) (hlb : Lst w0 s2 b) (hfa : Fine (listV a)) (hfb : Fine (listV b)) : Fc Try.prog 24 [s1, s2] w0 (IsB fun r => r = true → Okl a ∧ Okl b) := by
  obtain ⟨a1, c1, b1, o1, rfl, hfa1, hget1⟩ := hla.open
  obtain ⟨a2, c2, b2, o2, rfl, hfa2, hget2⟩ := hlb.open
  refine ret_enter Try.func24 rfl Try.ntmps24 rfl ?_
  have cx := Ctx.start w0
  refine wp_seq ?_
  refine wp_region_lit ?_
  refine s_val rfl rfl (v_assign rfl rfl) ?_
  refine wpList_nil ?_
  refine wp_seq ?_
  refine wp_region_lit ?_
  refine s_val rfl rfl (v_move rfl rfl) ?_
  refine s_val rfl rfl (v_build (bd33l _ _ _) rfl rfl) ?_
  refine s_fnB cx (c17 (listV a) _ _ ((val_list hla).up cx.ext) hfa) Try.func17 rfl rfl rfl rfl rfl rfl ?_; intro q7 w cx hw7 hp7
  refine s_val rfl rfl (v_move rfl rfl) ?_
  refine s_gval rfl rfl rfl (by first | exact w_tt rfl | exact w_gt rfl) (fun hc => v_move rfl (by first | exact gve hc rfl | exact gve (and_l hc) rfl | exact gve (and_l (and_l hc)) rfl | rfl)) ?_
  refine s_gval rfl rfl rfl (by first | exact w_tt rfl | exact w_gt rfl) (fun hc => v_build (bd33l _ _ _) rfl (congrArg (fun v => [(0, Value.int .i64 6), (6, v)]) (gve hc rfl))) ?_
  refine s_gfnB cx rfl rfl rfl (by first | exact w_tt rfl | exact w_gt rfl) (fun hc => c17 (listV b) _ _ ((val_list hlb).up cx.ext) hfb) Try.func17 rfl rfl rfl (fun hc => (cons_eq (gve hc rfl) rfl)) ?_; intro q11 w cx hw11 hp11
  refine s_val rfl rfl (v_and rfl rfl rfl rfl) ?_
  refine s_val rfl rfl (v_assign rfl rfl) ?_
  refine wpList_nil ?_
  refine wp_ret ?_
  refine ret_tmp Try.results24 rfl ?_
  refine ⟨cx.ext, _, rfl, fun h => ?_⟩
  simp only [Bool.and_eq_true] at h
  exact ⟨okl_of (hp7 h.1), okl_of (hp11 h.1 h.2)⟩

set_option maxRecDepth 10000 in
set_option maxHeartbeats 6400000 in
theorem c5 (a b : List V) (s1 s2 : Value) (w0 : World) (hla : Lst w0 s1 a) (hlb : Lst w0 s2 b) (hna : a.length ≤ 1048576) (hnb : b.length ≤ 1048576) (hfa : ∀ x ∈ a, Fine x) (hfb : ∀ x ∈ b, Fine x) : Fc Try.prog 5 [s1, s2] w0 (IsB fun r => r = true) := by
  obtain ⟨E, hE⟩ := classic_eqC
  obtain ⟨a1, c1, b1, o1, rfl, hfa1, hget1⟩ := hla.open
  obtain ⟨a2, c2, b2, o2, rfl, hfa2, hget2⟩ := hlb.open
  refine ret_enter Try.func5 rfl Try.ntmps5 rfl ?_
  have cx := Ctx.start w0
  refine wp_seq ?_
  refine wp_region_lit ?_
  refine s_val rfl rfl (v_assign rfl rfl) ?_
  refine wpList_nil ?_
  refine wp_seq ?_
  refine wp_seq ?_
  refine wp_region_lit ?_
  refine s_val rfl rfl (v_move rfl rfl) ?_
  refine s_val rfl rfl (v_move rfl rfl) ?_
  refine s_fnB cx (c24 a b _ _ _ (hla.up cx.ext) (hlb.up cx.ext) (fine_list hna hfa) (fine_list hnb hfb)) Try.func24 rfl rfl rfl rfl rfl rfl ?_; intro q10 w cx hw10 hp10
  refine s_val rfl rfl (v_not rfl rfl) ?_
  refine wpList_nil ?_
  refine c_split rfl (fun hc11 => ?_) (fun hc11 => ?_)
  · skip
    try simp only [Bool.and_eq_true, Bool.or_eq_true, Bool.and_eq_false_iff, Bool.or_eq_false_iff, Bool.not_eq_true', Bool.not_eq_false', decide_eq_true_eq, decide_eq_false_iff_not, beq_iff_eq, beq_eq_false_iff_ne, bne_iff_ne, bne_eq_false_iff_eq, ne_eq, Classical.not_not] at hc11
    refine wp_seq ?_
    refine wp_region_lit ?_
    refine s_val rfl rfl (v_assign rfl rfl) ?_
    refine wpList_nil ?_
    refine wp_ret ?_
    refine ret_tmp Try.results5 rfl ?_
    exact ⟨cx.ext, _, rfl, rfl⟩
  · skip
    try simp only [Bool.and_eq_true, Bool.or_eq_true, Bool.and_eq_false_iff, Bool.or_eq_false_iff, Bool.not_eq_true', Bool.not_eq_false', decide_eq_true_eq, decide_eq_false_iff_not, beq_iff_eq, beq_eq_false_iff_ne, bne_iff_ne, bne_eq_false_iff_eq, ne_eq, Classical.not_not] at hc11
    obtain ⟨⟨ha1, ha2, _⟩, ⟨hb1, hb2, _⟩⟩ := hp10 (by simpa using hc11)
    have hoa : ∀ x ∈ a, okd 48 x ∧ Fine x := fun x hx => ⟨ha1 x hx, hfa x hx⟩
    have hob : ∀ x ∈ b, okd 48 x ∧ Fine x := fun x hx => ⟨hb1 x hx, hfb x hx⟩
    have hcl := common_len E a b
    refine wp_skip ?_
    refine wp_seq ?_
    refine wp_region_lit ?_
    refine s_val rfl rfl (v_move rfl rfl) ?_
    refine s_val rfl rfl (v_move rfl rfl) ?_
    refine s_fn cx (c25 E hE a b _ _ _ (hla.up cx.ext) (hlb.up cx.ext) hoa hob (by omega) (by omega)) Try.func25 rfl rfl rfl rfl rfl rfl ?_; intro q14 w cx2 hw14 hp14
    obtain ⟨ap, cp, rfl, hrp⟩ := own_row hp14
    replace cx := cx.adopt hw14 hp14
    clear cx2 hp14
    refine s_val rfl rfl (v_move rfl rfl) ?_
    refine s_val rfl rfl (v_move rfl rfl) ?_
    refine s_fn cx (c26 E hE a b _ _ _ (hla.up cx.ext) (hlb.up cx.ext) hfa hfb (by omega) (by omega)) Try.func26 rfl rfl rfl rfl rfl rfl ?_; intro q17 w cx2 hw17 hp17
    obtain ⟨aq, cq, rfl, hrq⟩ := own_row hp17
    replace cx := cx.adopt hw17 hp17
    clear cx2 hp17
    refine s_val rfl rfl (v_assign rfl rfl) ?_
    refine s_val rfl rfl (v_assign rfl rfl) ?_
    refine wpList_nil ?_
    refine wp_seq ?_
    refine wp_seq ?_
    refine wp_region_lit ?_
    refine s_val rfl rfl (v_move rfl rfl) ?_
    refine s_val rfl rfl (v_lenSlice rfl rfl Try.underlying41) ?_
    refine s_val rfl rfl (v_move rfl rfl) ?_
    refine s_val rfl rfl (v_lenSlice rfl rfl Try.underlying41) ?_
    refine s_val rfl rfl (v_cmp rfl rfl rfl rfl) ?_
    refine wpList_nil ?_
    refine c_split rfl (fun hc22 => ?_) (fun hc22 => ?_)
    · skip
      exact absurd (show ((((common E a b).length : Nat) : Int) != (((common E a b).length : Nat) : Int)) = true from hc22) (by simp)
    · skip
      try simp only [Bool.and_eq_true, Bool.or_eq_true, Bool.and_eq_false_iff, Bool.or_eq_false_iff, Bool.not_eq_true', Bool.not_eq_false', decide_eq_true_eq, decide_eq_false_iff_not, beq_iff_eq, beq_eq_false_iff_ne, bne_iff_ne, bne_eq_false_iff_eq, ne_eq, Classical.not_not] at hc22
      refine wp_skip ?_
      refine wp_seq ?_
      refine wp_seq ?_
      refine wp_region_lit ?_
      refine s_val rfl rfl (v_assign rfl rfl) ?_
      refine wpList_nil ?_
      refine wp_block ?_
      refine w_loop (fun k f w1 => ∃ n, k + n = (common E a b).length ∧ f 5 = .slice ap (common E a b).length cp ∧ f 6 = .slice aq (common E a b).length cq ∧ f 7 = .int .i64 (n : Nat) ∧ Cxr w0 w1 [] [⟨43, 2, .slice aq (common E a b).length cq, (common E a b).length, (common E a b).flatMap qrow⟩, ⟨43, 2, .slice ap (common E a b).length cp, (common E a b).length, (common E a b).flatMap qrow⟩]) ((common E a b).length) ?_ ?_
      · skip
        exact ⟨0, by omega, rfl, rfl, rfl, cx⟩
      intro gk7 f w hJ
      obtain ⟨n, hkn, hs5, hs6, hs7, cx⟩ := hJ
      refine wp_seq ?_
      refine wp_seq ?_
      refine wp_region_lit ?_
      refine s_val rfl rfl (v_move rfl hs7) ?_
      refine s_val rfl rfl (v_move rfl hs5) ?_
      refine s_val rfl rfl (v_lenSlice rfl rfl Try.underlying41) ?_
      refine s_val rfl rfl (v_cmp rfl rfl rfl rfl) ?_
      refine wpList_nil ?_
      refine c_split rfl (fun hc26 => ?_) (fun hc26 => ?_)
      · skip
        try simp only [Bool.and_eq_true, Bool.or_eq_true, Bool.and_eq_false_iff, Bool.or_eq_false_iff, Bool.not_eq_true', Bool.not_eq_false', decide_eq_true_eq, decide_eq_false_iff_not, beq_iff_eq, beq_eq_false_iff_ne, bne_iff_ne, bne_eq_false_iff_eq, ne_eq, Classical.not_not] at hc26
        have hnl : n < (common E a b).length := by omega
        have hmn : (common E a b)[n]? = some (common E a b)[n] := List.getElem?_eq_getElem hnl
        obtain ⟨gp, rfl, _⟩ := hrp (by omega)
        obtain ⟨gq, rfl, _⟩ := hrq (by omega)
        refine wp_skip ?_
        refine wp_seq ?_
        refine wp_block ?_
        refine wp_seq ?_
        refine w_quiet cx mixed (by kernel_rfl) ?_
        skip
        refine q_val rfl rfl (fun w cx hwQ => v_move rfl hs5) ?_
        refine q_val rfl rfl (fun w cx hwQ => v_move rfl hs7) ?_
        refine q_val rfl rfl (fun w cx hwQ => v_ia Try.underlying41 sz43 rfl rfl rfl (by omega) (by omega)) ?_
        refine q_val rfl rfl (fun w cx hwQ => v_load rfl rfl Try.underlying43 rfl sz43 (qflat_row (cx.rowAt (List.mem_cons_of_mem _ (List.mem_cons_self ..)) (by omega)) hmn) rfl) ?_
        refine q_val rfl rfl (fun w cx hwQ => v_move rfl hs6) ?_
        refine q_val rfl rfl (fun w cx hwQ => v_move rfl hs7) ?_
        refine q_val rfl rfl (fun w cx hwQ => v_ia Try.underlying41 sz43 rfl rfl rfl (by omega) (by omega)) ?_
        refine q_val rfl rfl (fun w cx hwQ => v_load rfl rfl Try.underlying43 rfl sz43 (qflat_row (cx.rowAt (List.mem_cons_self ..) (by omega)) hmn) rfl) ?_
        refine q_val rfl rfl (fun w cx hwQ => v_agg eqg43 (ne43 _ _ _ _) rfl rfl rfl) ?_
        refine q_nil ?_; rintro w ⟨cx, hwQ9⟩
        refine c_split rfl (fun hc37 => ?_) (fun hc37 => ?_)
        · skip
          exact absurd (show (!((((common E a b)[n].1 : Nat) : Int) == (((common E a b)[n].1 : Nat) : Int) && (((common E a b)[n].2 : Nat) : Int) == (((common E a b)[n].2 : Nat) : Int))) = true from hc37) (by simp)
        · skip
          try simp only [Bool.and_eq_true, Bool.or_eq_true, Bool.and_eq_false_iff, Bool.or_eq_false_iff, Bool.not_eq_true', Bool.not_eq_false', decide_eq_true_eq, decide_eq_false_iff_not, beq_iff_eq, beq_eq_false_iff_ne, bne_iff_ne, bne_eq_false_iff_eq, ne_eq, Classical.not_not] at hc37
          refine wp_skip ?_
          refine wp_region_lit ?_
          refine s_val rfl rfl (v_move rfl hs7) ?_
          refine s_val rfl rfl (v_add rfl rfl rfl (by omega) (by omega)) ?_
          refine s_val rfl rfl (v_assign rfl rfl) ?_
          refine wpList_nil ?_
          exact ⟨gk7 - 1, _, by omega, rfl, n + 1, by omega, hs5, hs6, rfl, cx⟩
      · skip
        try simp only [Bool.and_eq_true, Bool.or_eq_true, Bool.and_eq_false_iff, Bool.or_eq_false_iff, Bool.not_eq_true', Bool.not_eq_false', decide_eq_true_eq, decide_eq_false_iff_not, beq_iff_eq, beq_eq_false_iff_ne, bne_iff_ne, bne_eq_false_iff_eq, ne_eq, Classical.not_not] at hc26
        refine wp_exit ?_
        refine wp_seq ?_
        refine wp_region_lit ?_
        refine s_val rfl rfl (v_assign rfl rfl) ?_
        refine wpList_nil ?_
        refine wp_ret ?_
        refine ret_tmp Try.results5 rfl ?_
        exact ⟨cx.ext, _, rfl, rfl⟩
end Go.Proofs.Ytmkihcdcgkdilaa
