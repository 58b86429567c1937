/-
  Contract: longest of the reference.
-/
import Derived.Test.YtmkihcdcgkdilaaQc
namespace Go.Proofs.Ytmkihcdcgkdilaa
open Go Go.Dk Go.RowKit
set_option linter.unusedSimpArgs false
set_option linter.unusedVariables false
attribute [local irreducible] Go.wpList Go.Code.wp Go.bodyPost Go.wpStill Go.wpQuiet
theorem get_opt {w : World} {b : List V} {b2 o2 : Nat} (hget : ∀ (i : Nat) (v : V), b[i]? = some v → ∃ r, RowAt w b2 (o2 + i * 13) r ∧ Val w v r) (k : Nat) : ∃ r, k < b.length → RowAt w b2 (o2 + k * 13) r ∧ Val w (b.getD k nulV) r := by
  by_cases h : k < b.length
  · obtain ⟨r, hr⟩ := hget k _ (List.getElem?_eq_getElem h)
    refine ⟨r, fun _ => ?_⟩
    rw [List.getD, List.getElem?_eq_getElem h]
    exact hr
  · exact ⟨[], fun h' => absurd h' h⟩
theorem fine_getD {b : List V} {Q : V → Prop} (h : ∀ x ∈ b, Q x) {k : Nat} (hk : k < b.length) : Q (b.getD k nulV) := by
  rw [List.getD, List.getElem?_eq_getElem hk]
  exact h _ (List.getElem_mem hk)
theorem prow0 (i k : Nat) : prow 0 (i, k) = [.int .i64 (i : Nat), .int .i64 (k : Nat)] := by simp [prow]
theorem sel_stop (E : V → V → Bool) (a b : List V) {d i j : Nat} (h : d = 0 ∨ b.length ≤ j ∨ mst E a b i j = 0) : sel E a b d i j = [] := by
  cases d with
  | zero => rfl
  | succ d =>
    unfold sel
    rw [if_neg]
    rintro ⟨h1, h2⟩
    rcases h with h | h | h
    · cases h
    · omega
    · exact h2 h
theorem sel_some (E : V → V → Bool) (a b : List V) {d i j k : Nat} (h1 : j < b.length) (h2 : mst E a b i j ≠ 0) (h : (List.range b.length).find? (prt E a b i j) = some k) : sel E a b (d + 1) i j = (i, k) :: sel E a b d (i + 1) (k + 1) := by
  conv => lhs; unfold sel
  rw [if_pos ⟨h1, h2⟩, h]
theorem sel_none (E : V → V → Bool) (a b : List V) {d i j : Nat} (h1 : j < b.length) (h2 : mst E a b i j ≠ 0) (h : (List.range b.length).find? (prt E a b i j) = none) : sel E a b (d + 1) i j = sel E a b d (i + 1) j := by
  conv => lhs; unfold sel
  rw [if_pos ⟨h1, h2⟩, h]

set_option maxRecDepth 10000 in
set_option maxHeartbeats 6400000 in
theorem c55 (E : V → V → Bool) (hE : ∀ x y, E x y = true ↔ canon x = canon y) (a b : List V) (s1 s2 : Value) (w0 : World) (hla : Lst w0 s1 a) (hlb : Lst w0 s2 b) (hoa : ∀ x ∈ a, Fine x) (hob : ∀ x ∈ b, Fine x) (hna : a.length ≤ 6000) (hnb : b.length ≤ 6000) (hnm : a.length * b.length ≤ 40000) : Fc Try.prog 55 [s1, s2] w0 (fun x w' => w'.ownsRow w0.heap.size 43 2 x (sel E a b a.length 0 0).length ((sel E a b a.length 0 0).flatMap (prow 0))) := by
  obtain ⟨a1, c1, b1, o1, rfl, hfa1, hget1⟩ := hla.open
  obtain ⟨a2, c2, b2, o2, rfl, hfa2, hget2⟩ := hlb.open
  have hNN : (a.length + 1) * (b.length + 1) ≤ 52001 := by
    have e : (a.length + 1) * (b.length + 1) = a.length * b.length + a.length + b.length + 1 := by rw [Nat.add_mul, Nat.mul_add]; omega
    omega
  have hNN1 : 0 < (a.length + 1) * (b.length + 1) := Nat.mul_pos (by omega) (by omega)
  refine ret_enter Try.func55 rfl Try.ntmps55 rfl ?_
  have cx := Ctx.start w0
  refine wp_seq ?_
  refine wp_region_lit ?_
  refine s_val rfl rfl (v_assign rfl rfl) ?_
  refine wpList_nil ?_
  refine wp_seq ?_
  refine wp_region_lit ?_
  refine s_val rfl rfl (v_move rfl rfl) ?_
  refine s_val rfl rfl (v_lenSlice rfl rfl Try.underlying30) ?_
  refine s_val rfl rfl (v_move rfl rfl) ?_
  refine s_val rfl rfl (v_lenSlice rfl rfl Try.underlying30) ?_
  refine s_val rfl rfl (v_assign rfl rfl) ?_
  refine s_val rfl rfl (v_assign rfl rfl) ?_
  refine wpList_nil ?_
  refine wp_seq ?_
  refine wp_region_lit ?_
  refine s_val rfl rfl (v_move rfl rfl) ?_
  refine s_val rfl rfl (v_addQ rfl rfl rfl (r := ((a.length + 1 : Nat) : Int)) (by omega) (by omega) (by omega)) ?_
  refine s_val rfl rfl (v_move rfl rfl) ?_
  refine s_val rfl rfl (v_addQ rfl rfl rfl (r := ((b.length + 1 : Nat) : Int)) (by omega) (by omega) (by omega)) ?_
  refine s_val rfl rfl (v_mulC (c := ((a.length + 1) * (b.length + 1))) rfl rfl rfl rfl (by omega)) ?_
  refine s_make (bytes := 8) (nn := ((a.length + 1) * (b.length + 1))) cx Try.underlying82 mk82 rfl rfl rfl rfl rfl (by omega) (by unfold maxLen; omega) ?_; intro q25 w cx hgr25 hq25
  obtain ⟨g2, rfl⟩ := hq25
  refine s_val rfl rfl (v_assign rfl rfl) ?_
  refine wpList_nil ?_
  refine wp_seq ?_
  refine wp_seq ?_
  refine wp_region_lit ?_
  rw [show ([Value.int .i64 0].getD 0 undef) = Value.int .i64 0 from rfl, mkI_zero] at cx
  refine s_val rfl rfl (v_move rfl rfl) ?_
  refine s_val rfl rfl (v_sub rfl rfl rfl (by omega) (by omega)) ?_
  refine s_val rfl rfl (v_assign rfl rfl) ?_
  refine wpList_nil ?_
  refine wp_block ?_
  refine w_loop (fun k f w1 => ∃ (ii : Nat) (F : Nat → Int), k = ii ∧ f 0 = .slice a1 a.length c1 ∧ f 1 = .slice a2 b.length c2 ∧ f 5 = .int .i64 a.length ∧ f 6 = .int .i64 b.length ∧ f 7 = .slice (some ⟨g2, 0, none⟩) ((a.length + 1) * (b.length + 1)) ((a.length + 1) * (b.length + 1)) ∧ f 8 = .int .i64 ((ii : Int) - 1) ∧ ii ≤ a.length ∧ TabI E a b F ii b.length ∧ Cxr w0 w1 [] [⟨3, 1, .slice (some ⟨g2, 0, none⟩) ((a.length + 1) * (b.length + 1)) ((a.length + 1) * (b.length + 1)), ((a.length + 1) * (b.length + 1)), mkI F ((a.length + 1) * (b.length + 1))⟩]) (a.length) ?_ ?_
  · skip
    exact ⟨a.length, _, rfl, rfl, rfl, rfl, rfl, rfl, rfl, by omega, TabI.start E a b, cx⟩
  intro gk4 f w hJ
  obtain ⟨ii, F, hki, hs0, hs1, hs5, hs6, hs7, hs8, hii, hT0, cx⟩ := hJ
  refine wp_seq ?_
  refine wp_seq ?_
  refine wp_region_lit ?_
  refine s_val rfl rfl (v_move rfl hs8) ?_
  refine s_val rfl rfl (v_cmp rfl rfl rfl rfl) ?_
  refine wpList_nil ?_
  refine c_split rfl (fun hc29 => ?_) (fun hc29 => ?_)
  · skip
    try simp only [Bool.and_eq_true, Bool.or_eq_true, Bool.and_eq_false_iff, Bool.or_eq_false_iff, Bool.not_eq_true', Bool.not_eq_false', decide_eq_true_eq, decide_eq_false_iff_not, beq_iff_eq, beq_eq_false_iff_ne, bne_iff_ne, bne_eq_false_iff_eq, ne_eq, Classical.not_not] at hc29
    obtain ⟨i, rfl⟩ : ∃ i, ii = i + 1 := ⟨ii - 1, by omega⟩
    have hs8' : f 8 = .int .i64 (i : Nat) := by rw [hs8]; congr 1; omega
    refine wp_skip ?_
    refine wp_seq ?_
    refine wp_block ?_
    refine wp_seq ?_
    refine wp_region_lit ?_
    refine s_val rfl rfl (v_move rfl hs6) ?_
    refine s_val rfl rfl (v_sub rfl rfl rfl (by omega) (by omega)) ?_
    refine s_val rfl rfl (v_assign rfl rfl) ?_
    refine wpList_nil ?_
    refine wp_block ?_
    refine w_loop (fun k f w1 => ∃ (kk : Nat) (F : Nat → Int), k = kk ∧ f 0 = .slice a1 a.length c1 ∧ f 1 = .slice a2 b.length c2 ∧ f 5 = .int .i64 a.length ∧ f 6 = .int .i64 b.length ∧ f 7 = .slice (some ⟨g2, 0, none⟩) ((a.length + 1) * (b.length + 1)) ((a.length + 1) * (b.length + 1)) ∧ f 8 = .int .i64 (i : Nat) ∧ f 9 = .int .i64 ((kk : Int) - 1) ∧ kk ≤ b.length ∧ TabI E a b F (i + 1) kk ∧ Cxr w0 w1 [] [⟨3, 1, .slice (some ⟨g2, 0, none⟩) ((a.length + 1) * (b.length + 1)) ((a.length + 1) * (b.length + 1)), ((a.length + 1) * (b.length + 1)), mkI F ((a.length + 1) * (b.length + 1))⟩]) (b.length) ?_ ?_
    · skip
      exact ⟨b.length, F, rfl, hs0, hs1, hs5, hs6, hs7, hs8', rfl, by omega, hT0, cx⟩
    intro gk7 f w hJ
    obtain ⟨kk, F, hkk, hs0, hs1, hs5, hs6, hs7, hs8, hs9, hkb, hT, cx⟩ := hJ
    refine wp_seq ?_
    refine wp_seq ?_
    refine wp_region_lit ?_
    refine s_val rfl rfl (v_move rfl hs9) ?_
    refine s_val rfl rfl (v_cmp rfl rfl rfl rfl) ?_
    refine wpList_nil ?_
    refine c_split rfl (fun hc35 => ?_) (fun hc35 => ?_)
    · skip
      try simp only [Bool.and_eq_true, Bool.or_eq_true, Bool.and_eq_false_iff, Bool.or_eq_false_iff, Bool.not_eq_true', Bool.not_eq_false', decide_eq_true_eq, decide_eq_false_iff_not, beq_iff_eq, beq_eq_false_iff_ne, bne_iff_ne, bne_eq_false_iff_eq, ne_eq, Classical.not_not] at hc35
      obtain ⟨k, rfl⟩ : ∃ k, kk = k + 1 := ⟨kk - 1, by omega⟩
      have hs9' : f 9 = .int .i64 (k : Nat) := by rw [hs9]; congr 1; omega
      obtain ⟨t0, ht0⟩ : ∃ t0, t0 = i * (b.length + 1) := ⟨_, rfl⟩
      have hix0 := ix_lt (n := a.length) (m := b.length) (i := i) (k := k + 1) (by omega) (by omega)
      have hix1 := ix_lt (n := a.length) (m := b.length) (i := i + 1) (k := k + 1) (by omega) (by omega)
      have he1 : (i + 1) * (b.length + 1) = t0 + b.length + 1 := by rw [Nat.add_mul, ← ht0]; omega
      rw [← ht0] at hix0
      rw [he1] at hix1
      have hB1 : F (t0 + k + 1) = (mst E a b i (k + 1) : Int) := by
        have := hT i (k + 1) (by omega) (by omega) (.inr (.inl ⟨rfl, by omega⟩))
        rwa [← ht0, ← Nat.add_assoc] at this
      have hB2 : F (t0 + b.length + 1 + k) = (mst E a b (i + 1) k : Int) := by
        have := hT (i + 1) k (by omega) (by omega) (.inl (by omega))
        rwa [he1] at this
      have hB3 : F (t0 + b.length + 1 + k + 1) = (mst E a b (i + 1) (k + 1) : Int) := by
        have := hT (i + 1) (k + 1) (by omega) (by omega) (.inl (by omega))
        rwa [he1, ← Nat.add_assoc] at this
      have hst := mst_step E a b (i := i) (k := k) (by omega) (by omega)
      have hml := mst_le E a b _ i (k + 1) rfl
      have hml2 := mst_le E a b _ (i + 1) k rfl
      have hml3 := mst_le E a b _ (i + 1) (k + 1) rfl
      have hge1 : a[i]? = some a[i] := List.getElem?_eq_getElem (by omega)
      have hge2 : b[k]? = some b[k] := List.getElem?_eq_getElem (by omega)
      obtain rfl := hfa1 (by omega)
      obtain rfl := hfa2 (by omega)
      obtain ⟨r1, hr1, hv1⟩ := hget1 i _ hge1
      obtain ⟨r2, hr2, hv2⟩ := hget2 k _ hge2
      refine wp_skip ?_
      refine wp_seq ?_
      refine wp_block ?_
      refine wp_seq ?_
      refine w_quiet cx mixed (by kernel_rfl) ?_
      skip
      refine q_val rfl rfl (fun w cx hwQ => v_move rfl hs7) ?_
      refine q_val rfl rfl (fun w cx hwQ => v_move rfl hs8) ?_
      refine q_val rfl rfl (fun w cx hwQ => v_addQ rfl rfl rfl (r := ((i + 1 : Nat) : Int)) (by omega) (by omega) (by omega)) ?_
      refine q_val rfl rfl (fun w cx hwQ => v_move rfl hs6) ?_
      refine q_val rfl rfl (fun w cx hwQ => v_addQ rfl rfl rfl (r := ((b.length + 1 : Nat) : Int)) (by omega) (by omega) (by omega)) ?_
      refine q_val rfl rfl (fun w cx hwQ => v_mulC (c := t0 + b.length + 1) rfl rfl rfl he1 (by omega)) ?_
      refine q_val rfl rfl (fun w cx hwQ => v_move rfl hs9') ?_
      refine q_val rfl rfl (fun w cx hwQ => v_addQ rfl rfl rfl (r := ((t0 + b.length + 1 + k : Nat) : Int)) (by omega) (by omega) (by omega)) ?_
      refine q_val rfl rfl (fun w cx hwQ => v_ia Try.underlying82 sz3 rfl rfl rfl (by omega) (by omega)) ?_
      refine q_val rfl rfl (fun w cx hwQ => v_load1 rfl rfl Try.underlying3 rfl ((cx.rowAt (List.mem_cons_self ..) (by omega)) _ _ (by rw [Int.toNat_natCast, Nat.mul_one]; exact (mkI_at (by omega)).trans (by rw [hB2])))) ?_
      refine q_val rfl rfl (fun w cx hwQ => v_move rfl hs7) ?_
      refine q_val rfl rfl (fun w cx hwQ => v_move rfl hs8) ?_
      refine q_val rfl rfl (fun w cx hwQ => v_move rfl hs6) ?_
      refine q_val rfl rfl (fun w cx hwQ => v_addQ rfl rfl rfl (r := ((b.length + 1 : Nat) : Int)) (by omega) (by omega) (by omega)) ?_
      refine q_val rfl rfl (fun w cx hwQ => v_mulC (c := t0) rfl rfl rfl ht0.symm (by omega)) ?_
      refine q_val rfl rfl (fun w cx hwQ => v_move rfl hs9') ?_
      refine q_val rfl rfl (fun w cx hwQ => v_addQ rfl rfl rfl (r := ((t0 + k : Nat) : Int)) (by omega) (by omega) (by omega)) ?_
      refine q_val rfl rfl (fun w cx hwQ => v_addQ rfl rfl rfl (r := ((t0 + k + 1 : Nat) : Int)) (by omega) (by omega) (by omega)) ?_
      refine q_val rfl rfl (fun w cx hwQ => v_ia Try.underlying82 sz3 rfl rfl rfl (by omega) (by omega)) ?_
      refine q_val rfl rfl (fun w cx hwQ => v_load1 rfl rfl Try.underlying3 rfl ((cx.rowAt (List.mem_cons_self ..) (by omega)) _ _ (by rw [Int.toNat_natCast, Nat.mul_one]; exact (mkI_at (by omega)).trans (by rw [hB1])))) ?_
      refine q_val rfl rfl (fun w cx hwQ => v_max rfl rfl rfl) ?_
      refine q_val rfl rfl (fun w cx hwQ => v_assign rfl rfl) ?_
      refine q_nil ?_; rintro w ⟨cx, hwQ9⟩
      refine wp_seq ?_
      refine wp_seq ?_
      refine w_quiet cx mixed (by kernel_rfl) ?_
      skip
      refine q_val rfl rfl (fun w cx hwQ => v_move rfl hs0) ?_
      refine q_val rfl rfl (fun w cx hwQ => v_move rfl hs8) ?_
      refine q_val rfl rfl (fun w cx hwQ => v_ia Try.underlying30 sz33 rfl rfl rfl (by omega) (by omega)) ?_
      refine q_val rfl rfl (fun w cx hwQ => v_load rfl rfl Try.underlying33 rfl sz33 (hr1.up cx.ext) hv1.len) ?_
      refine q_val rfl rfl (fun w cx hwQ => v_move rfl hs1) ?_
      refine q_val rfl rfl (fun w cx hwQ => v_move rfl hs9') ?_
      refine q_val rfl rfl (fun w cx hwQ => v_ia Try.underlying30 sz33 rfl rfl rfl (by omega) (by omega)) ?_
      refine q_val rfl rfl (fun w cx hwQ => v_load rfl rfl Try.underlying33 rfl sz33 (hr2.up cx.ext) hv2.len) ?_
      refine q_call rfl rfl (runs_fn Try.func27 rfl rfl rfl rfl) (fun w cx hwQ => (c27 _ _ _ _ _ (hoa _ (List.getElem_mem _)) (hob _ (List.getElem_mem _)) (hv1.up cx.ext) (hv2.up cx.ext)).det fun b hb => Bool.eq_iff_iff.2 (hb.trans (hE _ _).symm)) ?_
      refine q_nil ?_; rintro w ⟨cx, hwQ10⟩
      refine c_split rfl (fun hc67 => ?_) (fun hc67 => ?_)
      · skip
        skip
        refine wp_region_lit ?_
        refine s_val rfl rfl (v_move rfl rfl) ?_
        refine s_val rfl rfl (v_move rfl hs7) ?_
        refine s_val rfl rfl (v_move rfl hs8) ?_
        refine s_val rfl rfl (v_addQ rfl rfl rfl (r := ((i + 1 : Nat) : Int)) (by omega) (by omega) (by omega)) ?_
        refine s_val rfl rfl (v_move rfl hs6) ?_
        refine s_val rfl rfl (v_addQ rfl rfl rfl (r := ((b.length + 1 : Nat) : Int)) (by omega) (by omega) (by omega)) ?_
        refine s_val rfl rfl (v_mulC (c := t0 + b.length + 1) rfl rfl rfl he1 (by omega)) ?_
        refine s_val rfl rfl (v_move rfl hs9') ?_
        refine s_val rfl rfl (v_addQ rfl rfl rfl (r := ((t0 + b.length + 1 + k : Nat) : Int)) (by omega) (by omega) (by omega)) ?_
        refine s_val rfl rfl (v_addQ rfl rfl rfl (r := ((t0 + b.length + 1 + k + 1 : Nat) : Int)) (by omega) (by omega) (by omega)) ?_
        refine s_val rfl rfl (v_ia Try.underlying82 sz3 rfl rfl rfl (by omega) (by omega)) ?_
        refine s_val rfl rfl (v_load1 rfl rfl Try.underlying3 rfl ((cx.rowAt (List.mem_cons_self ..) (by omega)) _ _ (by rw [Int.toNat_natCast, Nat.mul_one]; exact (mkI_at (by omega)).trans (by rw [hB3])))) ?_
        refine s_val rfl rfl (v_add rfl rfl rfl (by omega) (by omega)) ?_
        refine s_val rfl rfl (v_max rfl rfl rfl) ?_
        refine s_val rfl rfl (v_assign rfl rfl) ?_
        refine wpList_nil ?_
        refine wp_region_lit ?_
        refine s_val rfl rfl (v_move rfl hs7) ?_
        refine s_val rfl rfl (v_move rfl hs8) ?_
        refine s_val rfl rfl (v_move rfl hs6) ?_
        refine s_val rfl rfl (v_addQ rfl rfl rfl (r := ((b.length + 1 : Nat) : Int)) (by omega) (by omega) (by omega)) ?_
        refine s_val rfl rfl (v_mulC (c := t0) rfl rfl rfl ht0.symm (by omega)) ?_
        refine s_val rfl rfl (v_move rfl hs9') ?_
        refine s_val rfl rfl (v_addQ rfl rfl rfl (r := ((t0 + k : Nat) : Int)) (by omega) (by omega) (by omega)) ?_
        refine s_val rfl rfl (v_move rfl rfl) ?_
        refine s_val rfl rfl (v_ia Try.underlying82 sz3 rfl rfl rfl (by omega) (by omega)) ?_
        refine s_cell (v := .int .i64 (max (max (mst E a b (i + 1) k : Int) (mst E a b i (k + 1) : Int)) (1 + (mst E a b (i + 1) (k + 1) : Int)))) cx rfl rfl rfl rfl rfl rfl (by rw [mkI_len]; omega) sz3 ?_; intro w cx hg12
        rw [show (0 + ((t0 + k : Nat) : Int).toNat * 1) = t0 + k by rw [Int.toNat_natCast]; omega, mkI_set] at cx
        refine wpList_nil ?_
        refine wp_region_lit ?_
        refine s_val rfl rfl (v_move rfl hs9) ?_
        refine s_val rfl rfl (v_sub rfl rfl rfl (by omega) (by omega)) ?_
        refine s_val rfl rfl (v_assign rfl rfl) ?_
        refine wpList_nil ?_
        have hEt : E a[i] b[k] = true := hc67
        refine ⟨k, _, by omega, rfl, k, _, rfl, hs0, hs1, hs5, hs6, hs7, hs8, by show Value.int .i64 _ = _; congr 1 <;> omega, by omega, ?_, cx⟩
        intro i' k' hi' hk' hh
        have := (hT.next (by omega) (by omega) (v := max (max (mst E a b (i + 1) k : Int) (mst E a b i (k + 1) : Int)) (1 + (mst E a b (i + 1) (k + 1) : Int))) (by rw [hst, if_pos hEt]; omega)) i' k' hi' hk' hh
        rw [← ht0] at this
        exact this
      · skip
        skip
        refine wp_skip ?_
        refine wp_region_lit ?_
        refine s_val rfl rfl (v_move rfl hs7) ?_
        refine s_val rfl rfl (v_move rfl hs8) ?_
        refine s_val rfl rfl (v_move rfl hs6) ?_
        refine s_val rfl rfl (v_addQ rfl rfl rfl (r := ((b.length + 1 : Nat) : Int)) (by omega) (by omega) (by omega)) ?_
        refine s_val rfl rfl (v_mulC (c := t0) rfl rfl rfl ht0.symm (by omega)) ?_
        refine s_val rfl rfl (v_move rfl hs9') ?_
        refine s_val rfl rfl (v_addQ rfl rfl rfl (r := ((t0 + k : Nat) : Int)) (by omega) (by omega) (by omega)) ?_
        refine s_val rfl rfl (v_move rfl rfl) ?_
        refine s_val rfl rfl (v_ia Try.underlying82 sz3 rfl rfl rfl (by omega) (by omega)) ?_
        refine s_cell (v := .int .i64 (max (mst E a b (i + 1) k : Int) (mst E a b i (k + 1) : Int))) cx rfl rfl rfl rfl rfl rfl (by rw [mkI_len]; omega) sz3 ?_; intro w cx hg12
        rw [show (0 + ((t0 + k : Nat) : Int).toNat * 1) = t0 + k by rw [Int.toNat_natCast]; omega, mkI_set] at cx
        refine wpList_nil ?_
        refine wp_region_lit ?_
        refine s_val rfl rfl (v_move rfl hs9) ?_
        refine s_val rfl rfl (v_sub rfl rfl rfl (by omega) (by omega)) ?_
        refine s_val rfl rfl (v_assign rfl rfl) ?_
        refine wpList_nil ?_
        have hEf : ¬ E a[i] b[k] = true := by intro h; have h2 : E a[i] b[k] = false := hc67; rw [h2] at h; cases h
        refine ⟨k, _, by omega, rfl, k, _, rfl, hs0, hs1, hs5, hs6, hs7, hs8, by show Value.int .i64 _ = _; congr 1 <;> omega, by omega, ?_, cx⟩
        intro i' k' hi' hk' hh
        have := (hT.next (by omega) (by omega) (v := max (mst E a b (i + 1) k : Int) (mst E a b i (k + 1) : Int)) (by rw [hst, if_neg hEf]; omega)) i' k' hi' hk' hh
        rw [← ht0] at this
        exact this
    · skip
      try simp only [Bool.and_eq_true, Bool.or_eq_true, Bool.and_eq_false_iff, Bool.or_eq_false_iff, Bool.not_eq_true', Bool.not_eq_false', decide_eq_true_eq, decide_eq_false_iff_not, beq_iff_eq, beq_eq_false_iff_ne, bne_iff_ne, bne_eq_false_iff_eq, ne_eq, Classical.not_not] at hc35
      obtain rfl : kk = 0 := by omega
      refine wp_exit ?_
      refine wp_region_lit ?_
      refine s_val rfl rfl (v_move rfl hs8) ?_
      refine s_val rfl rfl (v_sub rfl rfl rfl (by omega) (by omega)) ?_
      refine s_val rfl rfl (v_assign rfl rfl) ?_
      refine wpList_nil ?_
      exact ⟨i, _, by omega, rfl, i, F, rfl, hs0, hs1, hs5, hs6, hs7, rfl, by omega, hT.row _ (Nat.le_refl _), cx⟩
  · skip
    try simp only [Bool.and_eq_true, Bool.or_eq_true, Bool.and_eq_false_iff, Bool.or_eq_false_iff, Bool.not_eq_true', Bool.not_eq_false', decide_eq_true_eq, decide_eq_false_iff_not, beq_iff_eq, beq_eq_false_iff_ne, bne_iff_ne, bne_eq_false_iff_eq, ne_eq, Classical.not_not] at hc29
    obtain rfl : ii = 0 := by omega
    refine wp_exit ?_
    refine wp_seq ?_
    refine wp_region_lit ?_
    refine s_val rfl rfl (v_assign rfl rfl) ?_
    refine wpList_nil ?_
    refine wp_seq ?_
    refine wp_region_lit ?_
    replace cx := cx.nilRow 43 2
    have hT := hT0
    refine s_val rfl rfl (v_assign rfl rfl) ?_
    refine s_val rfl rfl (v_assign rfl rfl) ?_
    refine wpList_nil ?_
    refine wp_seq ?_
    refine wp_block ?_
    refine w_loop (fun k f w1 => ∃ (i fr : Nat) (pre : List (Nat × Nat)) (x : Value), k + i = a.length ∧ f 0 = .slice a1 a.length c1 ∧ f 1 = .slice a2 b.length c2 ∧ f 5 = .int .i64 a.length ∧ f 6 = .int .i64 b.length ∧ f 7 = .slice (some ⟨g2, 0, none⟩) ((a.length + 1) * (b.length + 1)) ((a.length + 1) * (b.length + 1)) ∧ f 11 = x ∧ f 12 = .int .i64 (i : Nat) ∧ f 13 = .int .i64 (fr : Nat) ∧ fr ≤ b.length ∧ pre.length ≤ i ∧ pre ++ sel E a b (a.length - i) i fr = sel E a b a.length 0 0 ∧ Cxr w0 w1 [] [⟨43, 2, x, pre.length, pre.flatMap (prow 0)⟩, ⟨3, 1, .slice (some ⟨g2, 0, none⟩) ((a.length + 1) * (b.length + 1)) ((a.length + 1) * (b.length + 1)), ((a.length + 1) * (b.length + 1)), mkI F ((a.length + 1) * (b.length + 1))⟩]) (a.length) ?_ ?_
    · skip
      exact ⟨0, 0, [], _, by omega, hs0, hs1, hs5, hs6, hs7, rfl, rfl, rfl, by omega, by simp, rfl, cx⟩
    intro gk15 f w hJ
    obtain ⟨i, fr, pre, x, hki, hs0, hs1, hs5, hs6, hs7, hs11, hs12, hs13, hfr, hpl, hpre, cx⟩ := hJ
    obtain ⟨t0, ht0⟩ : ∃ t0, t0 = i * (b.length + 1) := ⟨_, rfl⟩
    have hix0 := ix_lt (n := a.length) (m := b.length) (i := i) (k := fr) (by omega) (by omega)
    rw [← ht0] at hix0
    have hB0 : F (t0 + fr) = (mst E a b i fr : Int) := by
      have := hT i fr (by omega) (by omega) (.inl (by omega))
      rwa [← ht0] at this
    have hml := mst_le E a b _ i fr rfl
    refine wp_seq ?_
    refine wp_seq ?_
    refine wp_region_lit ?_
    refine s_val rfl rfl (v_move rfl hs12) ?_
    refine s_val rfl rfl (v_move rfl hs5) ?_
    refine s_val rfl rfl (v_cmp rfl rfl rfl rfl) ?_
    refine s_val rfl rfl (v_move rfl rfl) ?_
    refine s_gval rfl rfl rfl (by first | exact w_tt rfl | exact w_gt rfl) (fun hc => v_move rfl hs13) ?_
    refine s_gval rfl rfl rfl (by first | exact w_tt rfl | exact w_gt rfl) (fun hc => v_move rfl hs6) ?_
    refine s_gval rfl rfl rfl (by first | exact w_tt rfl | exact w_gt rfl) (fun hc => v_cmp rfl (by first | exact gve hc rfl | exact gve (and_l hc) rfl | exact gve (and_l (and_l hc)) rfl | rfl) (by first | exact gve hc rfl | exact gve (and_l hc) rfl | exact gve (and_l (and_l hc)) rfl | rfl) rfl) ?_
    refine s_val rfl rfl (v_and rfl rfl rfl rfl) ?_
    refine s_val rfl rfl (v_move rfl rfl) ?_
    refine s_gval rfl rfl rfl (by first | exact w_tt rfl | exact w_gt rfl) (fun hc => v_move rfl hs7) ?_
    refine s_gval rfl rfl rfl (by first | exact w_tt rfl | exact w_gt rfl) (fun hc => v_move rfl hs12) ?_
    refine s_gval rfl rfl rfl (by first | exact w_tt rfl | exact w_gt rfl) (fun hc => v_move rfl hs6) ?_
    refine s_gval rfl rfl rfl (by first | exact w_tt rfl | exact w_gt rfl) (fun hc => v_addQ rfl (gve hc rfl) rfl (r := ((b.length + 1 : Nat) : Int)) (by omega) (by omega) (by omega)) ?_
    refine s_gval rfl rfl rfl (by first | exact w_tt rfl | exact w_gt rfl) (fun hc => v_mulC (c := t0) rfl (gve hc rfl) (gve hc rfl) ht0.symm (by omega)) ?_
    refine s_gval rfl rfl rfl (by first | exact w_tt rfl | exact w_gt rfl) (fun hc => v_move rfl hs13) ?_
    refine s_gval rfl rfl rfl (by first | exact w_tt rfl | exact w_gt rfl) (fun hc => v_addQ rfl (gve hc rfl) (gve hc rfl) (r := ((t0 + fr : Nat) : Int)) (by omega) (by omega) (by omega)) ?_
    refine s_gval rfl rfl rfl (by first | exact w_tt rfl | exact w_gt rfl) (fun hc => v_ia Try.underlying82 sz3 rfl (gve hc rfl) (gve hc rfl) (by omega) (by omega)) ?_
    refine s_gval rfl rfl rfl (by first | exact w_tt rfl | exact w_gt rfl) (fun hc => v_load1 rfl (gve hc rfl) Try.underlying3 rfl ((cx.rowAt (List.mem_cons_of_mem _ (List.mem_cons_self ..)) (by omega)) _ _ (by rw [Int.toNat_natCast, Nat.mul_one]; exact (mkI_at (by omega)).trans (by rw [hB0])))) ?_
    refine s_gval rfl rfl rfl (by first | exact w_tt rfl | exact w_gt rfl) (fun hc => v_cmp rfl (by first | exact gve hc rfl | exact gve (and_l hc) rfl | exact gve (and_l (and_l hc)) rfl | rfl) rfl rfl) ?_
    refine s_val rfl rfl (v_and rfl rfl rfl rfl) ?_
    refine wpList_nil ?_
    refine c_split rfl (fun hc110 => ?_) (fun hc110 => ?_)
    · skip
      skip
      simp only [Bool.and_eq_true, decide_eq_true_eq] at hc110
      obtain ⟨⟨hci, hcf⟩, hcm⟩ := hc110
      have hne0 : mst E a b i fr ≠ 0 := by omega
      obtain ⟨dd, hdd⟩ : ∃ dd, a.length - i = dd + 1 := ⟨a.length - i - 1, by omega⟩
      have he1 : (i + 1) * (b.length + 1) = t0 + b.length + 1 := by rw [Nat.add_mul, ← ht0]; omega
      have hix2 := ix_lt (n := a.length) (m := b.length) (i := i + 1) (k := b.length) (by omega) (by omega)
      rw [he1] at hix2
      obtain rfl := hfa1 (by omega)
      obtain rfl := hfa2 (by omega)
      have hge1 : a[i]? = some a[i] := List.getElem?_eq_getElem (by omega)
      have hgd1 : a.getD i nulV = a[i] := by rw [List.getD, hge1]; rfl
      obtain ⟨r1, hr1, hv1⟩ := hget1 i _ hge1
      refine wp_skip ?_
      refine wp_block ?_
      refine wp_seq ?_
      refine wp_region_lit ?_
      refine s_val rfl rfl (v_move rfl hs7) ?_
      refine s_val rfl rfl (v_move rfl hs12) ?_
      refine s_val rfl rfl (v_move rfl hs6) ?_
      refine s_val rfl rfl (v_addQ rfl rfl rfl (r := ((b.length + 1 : Nat) : Int)) (by omega) (by omega) (by omega)) ?_
      refine s_val rfl rfl (v_mulC (c := t0) rfl rfl rfl ht0.symm (by omega)) ?_
      refine s_val rfl rfl (v_move rfl hs13) ?_
      refine s_val rfl rfl (v_addQ rfl rfl rfl (r := ((t0 + fr : Nat) : Int)) (by omega) (by omega) (by omega)) ?_
      refine s_val rfl rfl (v_ia Try.underlying82 sz3 rfl rfl rfl (by omega) (by omega)) ?_
      refine s_val rfl rfl (v_load1 rfl rfl Try.underlying3 rfl ((cx.rowAt (List.mem_cons_of_mem _ (List.mem_cons_self ..)) (by omega)) _ _ (by rw [Int.toNat_natCast, Nat.mul_one]; exact (mkI_at (by omega)).trans (by rw [hB0])))) ?_
      refine s_val rfl rfl (v_assign rfl rfl) ?_
      refine wpList_nil ?_
      refine wp_seq ?_
      refine wp_region_lit ?_
      refine s_val rfl rfl (v_move rfl hs13) ?_
      refine s_val rfl rfl (v_assign rfl rfl) ?_
      refine wpList_nil ?_
      refine wp_seq ?_
      refine wp_block ?_
      refine w_loop (fun kq f w1 => ∃ k : Nat, kq + k = b.length ∧ fr ≤ k ∧ f 0 = .slice (some ⟨b1, o1, none⟩) a.length c1 ∧ f 1 = .slice (some ⟨b2, o2, none⟩) b.length c2 ∧ f 5 = .int .i64 a.length ∧ f 6 = .int .i64 b.length ∧ f 7 = .slice (some ⟨g2, 0, none⟩) ((a.length + 1) * (b.length + 1)) ((a.length + 1) * (b.length + 1)) ∧ f 11 = x ∧ f 12 = .int .i64 (i : Nat) ∧ f 13 = .int .i64 (fr : Nat) ∧ f 14 = .int .i64 (mst E a b i fr : Nat) ∧ f 15 = .int .i64 (k : Nat) ∧ (∀ j, fr ≤ j → j < k → prt E a b i fr j = false) ∧ Cxr w0 w1 [] [⟨43, 2, x, pre.length, pre.flatMap (prow 0)⟩, ⟨3, 1, .slice (some ⟨g2, 0, none⟩) ((a.length + 1) * (b.length + 1)) ((a.length + 1) * (b.length + 1)), ((a.length + 1) * (b.length + 1)), mkI F ((a.length + 1) * (b.length + 1))⟩]) (b.length - fr) ?_ ?_
      · skip
        exact ⟨fr, by omega, by omega, hs0, hs1, hs5, hs6, hs7, hs11, hs12, hs13, rfl, rfl, fun j h1 h2 => by omega, cx⟩
      intro gk18 f w hJ
      obtain ⟨k, hkq, hfk, hs0, hs1, hs5, hs6, hs7, hs11, hs12, hs13, hs14, hs15, hno, cx⟩ := hJ
      obtain ⟨r2, hr2⟩ := get_opt hget2 k
      have hB4 : k < b.length → F (t0 + b.length + 1 + k + 1) = (mst E a b (i + 1) (k + 1) : Int) := fun hk => by
        have := hT (i + 1) (k + 1) (by omega) (by omega) (.inl (by omega))
        rwa [he1, ← Nat.add_assoc] at this
      have hml5 := mst_le E a b _ (i + 1) (k + 1) rfl
      have hprt : (E (a.getD i nulV) (b.getD k nulV) && ((1 + (mst E a b (i + 1) (k + 1) : Int)) == (mst E a b i fr : Int))) = prt E a b i fr k := by
        unfold prt
        rw [decide_eq_true (by omega : fr ≤ k), Bool.true_and]
        congr 1
        rw [Bool.eq_iff_iff]
        simp only [beq_iff_eq, decide_eq_true_eq]
        omega
      refine wp_seq ?_
      refine wp_seq ?_
      refine w_quiet cx mixed (by kernel_rfl) ?_
      skip
      refine q_val rfl rfl (fun w cx hwQ => v_move rfl hs15) ?_
      refine q_val rfl rfl (fun w cx hwQ => v_move rfl hs6) ?_
      refine q_val rfl rfl (fun w cx hwQ => v_cmp rfl rfl rfl rfl) ?_
      refine q_val rfl rfl (fun w cx hwQ => v_move rfl rfl) ?_
      refine q_gval rfl rfl rfl (by first | exact w_tt rfl | exact w_gt rfl) (fun hc w cx hwQ => v_move rfl hs0) ?_
      refine q_gval rfl rfl rfl (by first | exact w_tt rfl | exact w_gt rfl) (fun hc w cx hwQ => v_move rfl hs12) ?_
      refine q_gval rfl rfl rfl (by first | exact w_tt rfl | exact w_gt rfl) (fun hc w cx hwQ => v_ia Try.underlying30 sz33 rfl (gve hc rfl) (gve hc rfl) (by omega) (by omega)) ?_
      refine q_gval rfl rfl rfl (by first | exact w_tt rfl | exact w_gt rfl) (fun hc w cx hwQ => v_load rfl (gve hc rfl) Try.underlying33 rfl sz33 (hr1.up cx.ext) hv1.len) ?_
      refine q_gval rfl rfl rfl (by first | exact w_tt rfl | exact w_gt rfl) (fun hc w cx hwQ => v_move rfl hs1) ?_
      refine q_gval rfl rfl rfl (by first | exact w_tt rfl | exact w_gt rfl) (fun hc w cx hwQ => v_move rfl hs15) ?_
      refine q_gval rfl rfl rfl (by first | exact w_tt rfl | exact w_gt rfl) (fun hc w cx hwQ => (by have hkm : k < b.length := (by have := of_decide_eq_true hc; omega); exact v_ia Try.underlying30 sz33 rfl (gve hc rfl) (gve hc rfl) (by omega) (by omega))) ?_
      refine q_gval rfl rfl rfl (by first | exact w_tt rfl | exact w_gt rfl) (fun hc w cx hwQ => (by have hkm : k < b.length := (by have := of_decide_eq_true hc; omega); exact v_load rfl (gve hc rfl) Try.underlying33 rfl sz33 ((hr2 hkm).1.up cx.ext) (hr2 hkm).2.len)) ?_
      refine q_gcall (v := .bool (E (a.getD i nulV) (b.getD k nulV))) rfl rfl rfl (by first | exact w_tt rfl | exact w_gt rfl) (fun hc => runs_fn Try.func27 rfl rfl rfl (cons_eq (gve hc rfl) (cons_eq (gve hc rfl) rfl))) (fun hc w cx hwQ => by have hkm : k < b.length := (by have := of_decide_eq_true hc; omega); exact (c27 _ _ _ _ _ (fine_getD hoa (by omega)) (fine_getD hob hkm) (by rw [hgd1]; exact hv1.up cx.ext) ((hr2 hkm).2.up cx.ext)).det fun b hb => Bool.eq_iff_iff.2 (hb.trans (hE _ _).symm)) ?_
      refine q_gval rfl rfl rfl (by first | exact w_tt rfl | exact w_gt rfl) (fun hc w cx hwQ => v_move rfl (by first | exact gve hc rfl | exact gve (and_l hc) rfl | exact gve (and_l (and_l hc)) rfl | rfl)) ?_
      refine q_gval rfl rfl rfl (by first | exact w_tt rfl | exact w_gt rfl) (fun hc w cx hwQ => v_move rfl hs7) ?_
      refine q_gval rfl rfl rfl (by first | exact w_tt rfl | exact w_gt rfl) (fun hc w cx hwQ => v_move rfl hs12) ?_
      refine q_gval rfl rfl rfl (by first | exact w_tt rfl | exact w_gt rfl) (fun hc w cx hwQ => v_addQ rfl (gve hc rfl) rfl (r := ((i + 1 : Nat) : Int)) (by omega) (by omega) (by omega)) ?_
      refine q_gval rfl rfl rfl (by first | exact w_tt rfl | exact w_gt rfl) (fun hc w cx hwQ => v_move rfl hs6) ?_
      refine q_gval rfl rfl rfl (by first | exact w_tt rfl | exact w_gt rfl) (fun hc w cx hwQ => v_addQ rfl (gve hc rfl) rfl (r := ((b.length + 1 : Nat) : Int)) (by omega) (by omega) (by omega)) ?_
      refine q_gval rfl rfl rfl (by first | exact w_tt rfl | exact w_gt rfl) (fun hc w cx hwQ => v_mulC (c := t0 + b.length + 1) rfl (gve hc rfl) (gve hc rfl) he1 (by omega)) ?_
      refine q_gval rfl rfl rfl (by first | exact w_tt rfl | exact w_gt rfl) (fun hc w cx hwQ => v_move rfl hs15) ?_
      refine q_gval rfl rfl rfl (by first | exact w_tt rfl | exact w_gt rfl) (fun hc w cx hwQ => v_addQ rfl (gve hc rfl) (gve hc rfl) (r := ((t0 + b.length + 1 + k : Nat) : Int)) (by omega) (by omega) (by omega)) ?_
      refine q_gval rfl rfl rfl (by first | exact w_tt rfl | exact w_gt rfl) (fun hc w cx hwQ => v_addQ rfl (gve hc rfl) rfl (r := ((t0 + b.length + 1 + k + 1 : Nat) : Int)) (by omega) (by omega) (by omega)) ?_
      refine q_gval rfl rfl rfl (by first | exact w_tt rfl | exact w_gt rfl) (fun hc w cx hwQ => (by have hkm : k < b.length := (by have := of_decide_eq_true (and_l hc); omega); exact v_ia Try.underlying82 sz3 rfl (gve hc rfl) (gve hc rfl) (by omega) (by omega))) ?_
      refine q_gval rfl rfl rfl (by first | exact w_tt rfl | exact w_gt rfl) (fun hc w cx hwQ => (by have hkm : k < b.length := (by have := of_decide_eq_true (and_l hc); omega); exact v_load1 rfl (gve hc rfl) Try.underlying3 rfl ((cx.rowAt (List.mem_cons_of_mem _ (List.mem_cons_self ..)) (by omega)) _ _ (by rw [Int.toNat_natCast, Nat.mul_one]; exact (mkI_at (by omega)).trans (by rw [hB4 hkm]))))) ?_
      refine q_gval rfl rfl rfl (by first | exact w_tt rfl | exact w_gt rfl) (fun hc w cx hwQ => (by have hkm : k < b.length := (by have := of_decide_eq_true (and_l hc); omega); exact v_add rfl rfl (gve hc rfl) (by omega) (by omega))) ?_
      refine q_gval rfl rfl rfl (by first | exact w_tt rfl | exact w_gt rfl) (fun hc w cx hwQ => v_move rfl hs14) ?_
      refine q_gval rfl rfl rfl (by first | exact w_tt rfl | exact w_gt rfl) (fun hc w cx hwQ => v_cmp rfl (by first | exact gve hc rfl | exact gve (and_l hc) rfl | exact gve (and_l (and_l hc)) rfl | rfl) (by first | exact gve hc rfl | exact gve (and_l hc) rfl | exact gve (and_l (and_l hc)) rfl | rfl) rfl) ?_
      refine q_gval rfl rfl rfl (by first | exact w_tt rfl | exact w_gt rfl) (fun hc w cx hwQ => v_and_g hc rfl rfl rfl rfl) ?_
      refine q_gval rfl rfl rfl (by first | exact w_tt rfl | exact w_gt rfl) (fun hc w cx hwQ => v_not rfl (by first | exact gve hc rfl | exact gve (and_l hc) rfl | exact gve (and_l (and_l hc)) rfl | rfl)) ?_
      refine q_val rfl rfl (fun w cx hwQ => v_and rfl rfl rfl rfl) ?_
      refine q_nil ?_; rintro w ⟨cx, hwQ18⟩
      refine c_split rfl (fun hc151 => ?_) (fun hc151 => ?_)
      · skip
        skip
        simp only [Bool.and_eq_true, decide_eq_true_eq, Bool.not_eq_true'] at hc151
        obtain ⟨hkl, hnp⟩ := hc151
        rw [hprt] at hnp
        refine wp_skip ?_
        refine wp_block ?_
        refine wp_region_lit ?_
        refine s_val rfl rfl (v_move rfl hs15) ?_
        refine s_val rfl rfl (v_add rfl rfl rfl (by omega) (by omega)) ?_
        refine s_val rfl rfl (v_assign rfl rfl) ?_
        refine wpList_nil ?_
        refine ⟨gk18 - 1, _, by omega, rfl, k + 1, by omega, by omega, hs0, hs1, hs5, hs6, hs7, hs11, hs12, hs13, hs14, rfl, fun j h1 h2 => ?_, cx⟩
        rcases Nat.lt_or_ge j k with h | h
        · exact hno j h1 h
        · obtain rfl : j = k := by omega
          exact hnp
      · skip
        skip
        refine wp_exit ?_
        refine wp_seq ?_
        refine wp_seq ?_
        refine wp_region_lit ?_
        refine s_val rfl rfl (v_move rfl hs15) ?_
        refine s_val rfl rfl (v_move rfl hs6) ?_
        refine s_val rfl rfl (v_cmp rfl rfl rfl rfl) ?_
        refine wpList_nil ?_
        refine c_split rfl (fun hc156 => ?_) (fun hc156 => ?_)
        · skip
          try simp only [Bool.and_eq_true, Bool.or_eq_true, Bool.and_eq_false_iff, Bool.or_eq_false_iff, Bool.not_eq_true', Bool.not_eq_false', decide_eq_true_eq, decide_eq_false_iff_not, beq_iff_eq, beq_eq_false_iff_ne, bne_iff_ne, bne_eq_false_iff_eq, ne_eq, Classical.not_not] at hc156
          have hkp : prt E a b i fr k = true := by
            simp only [Bool.and_eq_false_iff, decide_eq_false_iff_not, Bool.not_eq_false'] at hc151
            rcases hc151 with h | h
            · omega
            · rwa [hprt] at h
          have hfn : (List.range b.length).find? (prt E a b i fr) = some k := find_first (by omega) hkp fun j hj => by
            rcases Nat.lt_or_ge j fr with h | h
            · unfold prt; rw [decide_eq_false (by omega)]; rfl
            · exact hno j h hj
          rw [hdd, sel_some E a b (by omega) hne0 hfn] at hpre
          refine wp_seq ?_
          refine wp_region_lit ?_
          refine s_val rfl rfl (v_move rfl hs11) ?_
          refine s_val rfl rfl (v_move rfl hs12) ?_
          refine s_val rfl rfl (v_move rfl hs15) ?_
          refine s_val rfl rfl (v_build (bd43 _ _) rfl rfl) ?_
          refine s_bsl1 cx Try.underlying41 sz43 z43 rfl rfl rfl rfl rfl rfl rfl rfl ?_; intro b161 w cx hb161 hw161
          refine s_appendG (m := 1) cx ei43 Try.underlying41 rfl rfl rfl rfl rfl (cx.row 0 rfl) rfl rfl (by omega) ?_; intro v162 w cx hgr162 hnw162
          replace cx := cx.drop 1
          refine s_val rfl rfl (v_assign rfl rfl) ?_
          refine wpList_nil ?_
          refine wp_region_lit ?_
          refine s_val rfl rfl (v_move rfl hs15) ?_
          refine s_val rfl rfl (v_add rfl rfl rfl (by omega) (by omega)) ?_
          refine s_val rfl rfl (v_assign rfl rfl) ?_
          refine wpList_nil ?_
          refine wp_region_lit ?_
          refine s_val rfl rfl (v_move rfl hs12) ?_
          refine s_val rfl rfl (v_add rfl rfl rfl (by omega) (by omega)) ?_
          refine s_val rfl rfl (v_assign rfl rfl) ?_
          refine wpList_nil ?_
          refine ⟨gk15 - 1, _, by omega, rfl, i + 1, k + 1, pre ++ [(i, k)], v162, by omega, hs0, hs1, hs5, hs6, hs7, rfl, rfl, rfl, by omega, by simp; omega, ?_, ?_⟩
          · rw [show a.length - (i + 1) = dd by omega, List.append_assoc]
            exact hpre
          · rw [List.flatMap_append, List.length_append, List.flatMap_singleton, prow0]
            exact cx
        · skip
          try simp only [Bool.and_eq_true, Bool.or_eq_true, Bool.and_eq_false_iff, Bool.or_eq_false_iff, Bool.not_eq_true', Bool.not_eq_false', decide_eq_true_eq, decide_eq_false_iff_not, beq_iff_eq, beq_eq_false_iff_ne, bne_iff_ne, bne_eq_false_iff_eq, ne_eq, Classical.not_not] at hc156
          have hfn : (List.range b.length).find? (prt E a b i fr) = none := find_no fun j hj => by
            rcases Nat.lt_or_ge j fr with h | h
            · unfold prt; rw [decide_eq_false (by omega)]; rfl
            · exact hno j h (by omega)
          rw [hdd, sel_none E a b (by omega) hne0 hfn] at hpre
          refine wp_skip ?_
          refine wp_region_lit ?_
          refine s_val rfl rfl (v_move rfl hs12) ?_
          refine s_val rfl rfl (v_add rfl rfl rfl (by omega) (by omega)) ?_
          refine s_val rfl rfl (v_assign rfl rfl) ?_
          refine wpList_nil ?_
          exact ⟨gk15 - 1, _, by omega, rfl, i + 1, fr, pre, x, by omega, hs0, hs1, hs5, hs6, hs7, hs11, rfl, hs13, by omega, by omega, by rw [show a.length - (i + 1) = dd by omega]; exact hpre, cx⟩
    · skip
      skip
      refine wp_exit ?_
      refine wp_seq ?_
      refine wp_region_lit ?_
      refine s_val rfl rfl (v_move rfl hs11) ?_
      refine s_val rfl rfl (v_assign rfl rfl) ?_
      refine wpList_nil ?_
      refine wp_ret ?_
      refine ret_tmp Try.results55 rfl ?_
      have hfin : pre = sel E a b a.length 0 0 := by
        have h0 : sel E a b (a.length - i) i fr = [] := by
          refine sel_stop E a b ?_
          simp only [Bool.and_eq_false_iff, decide_eq_false_iff_not] at hc110
          rcases hc110 with (h | h) | h
          · left; omega
          · right; left; omega
          · right; right; omega
        rw [h0, List.append_nil] at hpre
        exact hpre
      subst hfin
      exact ⟨cx.ext, cx.head⟩
end Go.Proofs.Ytmkihcdcgkdilaa
