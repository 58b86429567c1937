/-
  Contracts: slices.Equal of bytes, slices.EqualFunc of values and of fields.
-/
import Derived.Test.YtmkihcdcgkdilaaSg
namespace Go.Proofs.Ytmkihcdcgkdilaa
open Go Go.Dk Go.RowKit
set_option linter.unusedSimpArgs false
set_option linter.unusedVariables false
attribute [local irreducible] Go.wpList Go.Code.wp Go.bodyPost Go.wpStill Go.wpQuiet
theorem byt_at {w : World} {b o : Nat} {l : List UInt8} (h : RowAt w b o (l.map byteVal)) {i : Nat} (hi : i < l.length) : RowAt w b (o + i * 1) [.int .u8 (l.getD i 0).toNat] := by
  intro j x hj
  cases j with
  | zero =>
    simp at hj; subst hj
    refine h (i * 1) _ ?_
    rw [List.getElem?_map, Nat.mul_one, List.getElem?_eq_getElem hi]
    simp [byteVal, List.getElem?_eq_getElem hi]
  | succ j => simp at hj
theorem byteVal_inj {a b : UInt8} (h : (a.toNat : Int) = (b.toNat : Int)) : a = b := UInt8.toNat_inj.1 (by omega)

set_option maxRecDepth 10000 in
theorem c113 (A : Nat → Prop) (l1 l2 : List UInt8) (s1 s2 : Value) (w0 : World) (h1 : RepB A w0 s1 l1) (h2 : RepB A w0 s2 l2) (hA : ∀ b, A b → b < w0.heap.size) (hb1 : l1.length ≤ 1048576) (hb2 : l2.length ≤ 1048576) : Fc Try.prog 113 [s1, s2] w0 (IsB fun b => b = true ↔ l1 = l2) := by
  obtain ⟨a1, c1, b1, o1, rfl, hfa1, hrow1⟩ := h1.form
  obtain ⟨a2, c2, b2, o2, rfl, hfa2, hrow2⟩ := h2.form
  refine ret_enter Try.func113 rfl Try.ntmps113 rfl ?_
  have cx := Ctx.start w0
  refine wp_seq ?_
  refine wp_region_lit ?_
  refine s_val rfl rfl (v_assign rfl rfl) ?_
  refine wpList_nil ?_
  refine wp_seq ?_
  refine wp_seq ?_
  refine wp_region_lit ?_
  refine s_val rfl rfl (v_move rfl rfl) ?_
  refine s_val rfl rfl (v_lenSlice rfl rfl Try.underlying29) ?_
  refine s_val rfl rfl (v_move rfl rfl) ?_
  refine s_val rfl rfl (v_lenSlice rfl rfl Try.underlying29) ?_
  refine s_val rfl rfl (v_cmp rfl rfl rfl rfl) ?_
  refine wpList_nil ?_
  refine c_split rfl (fun hc10 => ?_) (fun hc10 => ?_)
  · skip
    try simp only [Bool.and_eq_true, Bool.or_eq_true, Bool.and_eq_false_iff, Bool.or_eq_false_iff, Bool.not_eq_true', Bool.not_eq_false', decide_eq_true_eq, decide_eq_false_iff_not, beq_iff_eq, beq_eq_false_iff_ne, bne_iff_ne, bne_eq_false_iff_eq, ne_eq, Classical.not_not] at hc10
    refine wp_seq ?_
    refine wp_region_lit ?_
    refine s_val rfl rfl (v_assign rfl rfl) ?_
    refine wpList_nil ?_
    refine wp_ret ?_
    refine ret_tmp Try.results113 rfl ?_
    exact ⟨cx.ext, _, rfl, by constructor
                              · intro h; cases h
                              · intro h; subst h; omega⟩
  · skip
    try simp only [Bool.and_eq_true, Bool.or_eq_true, Bool.and_eq_false_iff, Bool.or_eq_false_iff, Bool.not_eq_true', Bool.not_eq_false', decide_eq_true_eq, decide_eq_false_iff_not, beq_iff_eq, beq_eq_false_iff_ne, bne_iff_ne, bne_eq_false_iff_eq, ne_eq, Classical.not_not] at hc10
    refine wp_skip ?_
    refine wp_seq ?_
    refine wp_seq ?_
    refine wp_region_lit ?_
    refine s_val rfl rfl (v_move rfl rfl) ?_
    refine s_val rfl rfl (v_lenSlice rfl rfl Try.underlying29) ?_
    refine s_val rfl rfl (v_move rfl rfl) ?_
    refine wpList_nil ?_
    refine wp_block ?_
    refine w_loop (fun k f w1 => ∃ i : Nat, k + i = l1.length ∧ f 0 = .slice a1 l1.length c1 ∧ f 1 = .slice a2 l2.length c2 ∧ f 12 = .int .i64 l1.length ∧ f 13 = .int .i64 i ∧ Ctx w0 w1 [] ∧ ∀ j, j < i → l1.getD j 0 = l2.getD j 0) (l1.length) ?_ ?_
    · skip
      exact ⟨0, by omega, rfl, rfl, rfl, rfl, cx, fun j hj => by omega⟩
    intro gk4 f w hJ
    obtain ⟨i, hki, hs0, hs1, hs12, hs13, cx, hall⟩ := hJ
    refine wp_seq ?_
    refine wp_region_lit ?_
    refine s_val rfl rfl (v_cmp rfl hs13 hs12 rfl) ?_
    refine wpList_nil ?_
    refine wp_seq ?_
    refine c_split rfl (fun hc14 => ?_) (fun hc14 => ?_)
    · skip
      try simp only [Bool.and_eq_true, Bool.or_eq_true, Bool.and_eq_false_iff, Bool.or_eq_false_iff, Bool.not_eq_true', Bool.not_eq_false', decide_eq_true_eq, decide_eq_false_iff_not, beq_iff_eq, beq_eq_false_iff_ne, bne_iff_ne, bne_eq_false_iff_eq, ne_eq, Classical.not_not] at hc14
      obtain rfl := hfa1 (by omega)
      obtain rfl := hfa2 (by omega)
      have hx1 := byt_at hrow1 (i := i) (by omega)
      have hx2 := byt_at hrow2 (i := i) (by omega)
      refine wp_skip ?_
      refine wp_seq ?_
      refine wp_block ?_
      refine wp_seq ?_
      refine wp_region_lit ?_
      refine s_val rfl rfl (v_move rfl hs13) ?_
      refine s_val rfl rfl (v_assign rfl rfl) ?_
      refine wpList_nil ?_
      refine wp_seq ?_
      refine w_quiet cx mixed (by kernel_rfl) ?_
      skip
      refine q_val rfl rfl (fun w cx hwQ => v_move rfl hs0) ?_
      refine q_val rfl rfl (fun w cx hwQ => v_move rfl rfl) ?_
      refine q_val rfl rfl (fun w cx hwQ => v_ia Try.underlying29 sz5 rfl rfl rfl (by omega) (by omega)) ?_
      refine q_val rfl rfl (fun w cx hwQ => v_load1 rfl rfl Try.underlying5 rfl ((hx1.up (cx.ext)).cell 0 rfl)) ?_
      refine q_val rfl rfl (fun w cx hwQ => v_move rfl hs1) ?_
      refine q_val rfl rfl (fun w cx hwQ => v_move rfl rfl) ?_
      refine q_val rfl rfl (fun w cx hwQ => v_ia Try.underlying29 sz5 rfl rfl rfl (by omega) (by omega)) ?_
      refine q_val rfl rfl (fun w cx hwQ => v_load1 rfl rfl Try.underlying5 rfl ((hx2.up (cx.ext)).cell 0 rfl)) ?_
      refine q_val rfl rfl (fun w cx hwQ => v_cmp rfl rfl rfl rfl) ?_
      refine q_nil ?_; rintro w ⟨cx, hwQ6⟩
      refine c_split rfl (fun hc24 => ?_) (fun hc24 => ?_)
      · skip
        try simp only [Bool.and_eq_true, Bool.or_eq_true, Bool.and_eq_false_iff, Bool.or_eq_false_iff, Bool.not_eq_true', Bool.not_eq_false', decide_eq_true_eq, decide_eq_false_iff_not, beq_iff_eq, beq_eq_false_iff_ne, bne_iff_ne, bne_eq_false_iff_eq, ne_eq, Classical.not_not] at hc24
        replace hc24 : l1.getD i 0 ≠ l2.getD i 0 := fun e => hc24 (by rw [e])
        refine wp_seq ?_
        refine wp_region_lit ?_
        refine s_val rfl rfl (v_assign rfl rfl) ?_
        refine wpList_nil ?_
        refine wp_ret ?_
        refine ret_tmp Try.results113 rfl ?_
        refine ⟨cx.ext, _, rfl, ?_⟩
        constructor
        · intro h; cases h
        · intro h
          subst h
          exact absurd rfl hc24
      · skip
        try simp only [Bool.and_eq_true, Bool.or_eq_true, Bool.and_eq_false_iff, Bool.or_eq_false_iff, Bool.not_eq_true', Bool.not_eq_false', decide_eq_true_eq, decide_eq_false_iff_not, beq_iff_eq, beq_eq_false_iff_ne, bne_iff_ne, bne_eq_false_iff_eq, ne_eq, Classical.not_not] at hc24
        replace hc24 := byteVal_inj hc24
        refine wp_skip ?_
        refine wp_region_lit ?_
        refine s_val rfl rfl (v_add rfl hs13 rfl (by omega) (by omega)) ?_
        refine s_val rfl rfl (v_move rfl rfl) ?_
        refine wpList_nil ?_
        refine ⟨gk4 - 1, _, by omega, rfl, i + 1, by omega, hs0, hs1, hs12, rfl, cx, fun j hj => ?_⟩
        rcases Nat.lt_or_ge j i with h | h
        · exact hall j h
        · obtain rfl : j = i := by omega
          exact hc24
    · skip
      try simp only [Bool.and_eq_true, Bool.or_eq_true, Bool.and_eq_false_iff, Bool.or_eq_false_iff, Bool.not_eq_true', Bool.not_eq_false', decide_eq_true_eq, decide_eq_false_iff_not, beq_iff_eq, beq_eq_false_iff_ne, bne_iff_ne, bne_eq_false_iff_eq, ne_eq, Classical.not_not] at hc14
      refine wp_exit ?_
      refine wp_seq ?_
      refine wp_region_lit ?_
      refine s_val rfl rfl (v_assign rfl rfl) ?_
      refine wpList_nil ?_
      refine wp_ret ?_
      refine ret_tmp Try.results113 rfl ?_
      refine ⟨cx.ext, _, rfl, ?_⟩
      constructor
      · intro _
        refine List.ext_getElem (by omega) fun j hj1 hj2 => ?_
        have := hall j (by omega)
        rw [List.getD, List.getD, List.getElem?_eq_getElem hj1, List.getElem?_eq_getElem hj2] at this
        exact this
      · intro _; rfl

set_option maxRecDepth 10000 in
theorem c116 (l1 l2 : List V) (s1 s2 : Value) (cap : List Value) (w0 : World) (h1 : Lst w0 s1 l1) (h2 : Lst w0 s2 l2) (hb1 : l1.length ≤ 1048576) (hb2 : l2.length ≤ 1048576)
    (H : ∀ w', Below w0.heap.size w0 w' → ∀ (i : Nat) (x y : V) (r r' : List Value), l1[i]? = some x → l2[i]? = some y → Val w' x r → Val w' y r' → Fc Try.prog 115 ([.agg r.toArray, .agg r'.toArray] ++ cap) w' (IsB fun b => b = true ↔ canon x = canon y)) : Fc Try.prog 116 [s1, s2, .func (.func 115) #[] cap.toArray] w0 (IsB fun b => b = true ↔ l1.map canon = l2.map canon) := by
  obtain ⟨a1, c1, b1, o1, rfl, hfa1, hget1⟩ := h1.open
  obtain ⟨a2, c2, b2, o2, rfl, hfa2, hget2⟩ := h2.open
  refine ret_enter Try.func116 rfl Try.ntmps116 rfl ?_
  have cx := Ctx.start w0
  refine wp_seq ?_
  refine wp_region_lit ?_
  refine s_val rfl rfl (v_assign rfl rfl) ?_
  refine wpList_nil ?_
  refine wp_seq ?_
  refine wp_seq ?_
  refine wp_region_lit ?_
  refine s_val rfl rfl (v_move rfl rfl) ?_
  refine s_val rfl rfl (v_lenSlice rfl rfl Try.underlying30) ?_
  refine s_val rfl rfl (v_move rfl rfl) ?_
  refine s_val rfl rfl (v_lenSlice rfl rfl Try.underlying30) ?_
  refine s_val rfl rfl (v_cmp rfl rfl rfl rfl) ?_
  refine wpList_nil ?_
  refine c_split rfl (fun hc14 => ?_) (fun hc14 => ?_)
  · skip
    try simp only [Bool.and_eq_true, Bool.or_eq_true, Bool.and_eq_false_iff, Bool.or_eq_false_iff, Bool.not_eq_true', Bool.not_eq_false', decide_eq_true_eq, decide_eq_false_iff_not, beq_iff_eq, beq_eq_false_iff_ne, bne_iff_ne, bne_eq_false_iff_eq, ne_eq, Classical.not_not] at hc14
    refine wp_seq ?_
    refine wp_region_lit ?_
    refine s_val rfl rfl (v_assign rfl rfl) ?_
    refine wpList_nil ?_
    refine wp_ret ?_
    refine ret_tmp Try.results116 rfl ?_
    refine ⟨cx.ext, _, rfl, ?_⟩
    constructor
    · intro h; cases h
    · intro h
      have := congrArg List.length h
      simp at this; omega
  · skip
    try simp only [Bool.and_eq_true, Bool.or_eq_true, Bool.and_eq_false_iff, Bool.or_eq_false_iff, Bool.not_eq_true', Bool.not_eq_false', decide_eq_true_eq, decide_eq_false_iff_not, beq_iff_eq, beq_eq_false_iff_ne, bne_iff_ne, bne_eq_false_iff_eq, ne_eq, Classical.not_not] at hc14
    refine wp_skip ?_
    refine wp_seq ?_
    refine wp_seq ?_
    refine wp_region_lit ?_
    refine s_val rfl rfl (v_move rfl rfl) ?_
    refine s_val rfl rfl (v_lenSlice rfl rfl Try.underlying30) ?_
    refine s_val rfl rfl (v_move rfl rfl) ?_
    refine wpList_nil ?_
    refine wp_block ?_
    refine w_loop (fun k f w1 => ∃ i : Nat, k + i = l1.length ∧ f 15 = .slice a1 l1.length c1 ∧ f 1 = .slice a2 l2.length c2 ∧ f 2 = .func (.func 115) #[] cap.toArray ∧ f 16 = .int .i64 l1.length ∧ f 17 = .int .i64 i ∧ Ctx w0 w1 [] ∧ ∀ (j : Nat) (x y : V), j < i → l1[j]? = some x → l2[j]? = some y → canon x = canon y) (l1.length) ?_ ?_
    · skip
      exact ⟨0, by omega, rfl, rfl, rfl, rfl, rfl, cx, fun j x y hj => by omega⟩
    intro gk4 f w hJ
    obtain ⟨i, hki, hs15, hs1, hs2, hs16, hs17, cx, hall⟩ := hJ
    refine wp_seq ?_
    refine wp_region_lit ?_
    refine s_val rfl rfl (v_cmp rfl hs17 hs16 rfl) ?_
    refine wpList_nil ?_
    refine wp_seq ?_
    refine c_split rfl (fun hc18 => ?_) (fun hc18 => ?_)
    · skip
      try simp only [Bool.and_eq_true, Bool.or_eq_true, Bool.and_eq_false_iff, Bool.or_eq_false_iff, Bool.not_eq_true', Bool.not_eq_false', decide_eq_true_eq, decide_eq_false_iff_not, beq_iff_eq, beq_eq_false_iff_ne, bne_iff_ne, bne_eq_false_iff_eq, ne_eq, Classical.not_not] at hc18
      obtain rfl := hfa1 (by omega)
      obtain rfl := hfa2 (by omega)
      have hg1 : l1[i]? = some l1[i] := List.getElem?_eq_getElem (by omega)
      have hg2 : l2[i]? = some l2[i] := List.getElem?_eq_getElem (by omega)
      obtain ⟨r1, hr1, hv1⟩ := hget1 i _ hg1
      obtain ⟨r2, hr2, hv2⟩ := hget2 i _ hg2
      have hlz := hv1.len
      have hlz2 := hv2.len
      refine wp_skip ?_
      refine wp_seq ?_
      refine wp_block ?_
      refine wp_seq ?_
      refine wp_region_lit ?_
      refine s_val rfl rfl (v_move rfl hs17) ?_
      refine s_val rfl rfl (v_ia Try.underlying30 sz33 rfl hs15 hs17 (by omega) (by omega)) ?_
      refine s_val rfl rfl (v_load rfl rfl Try.underlying33 rfl sz33 (hr1.up cx.ext) hv1.len) ?_
      refine s_alloc cx z33 rfl rfl rfl ?_; intro b8 w cx hb8 hw8
      refine s_val rfl rfl (v_assign rfl rfl) ?_
      refine s_storeAllG cx 0 rfl rfl rfl rfl rfl rfl (by rw [hlz]; exact sz33) (by rw [hlz]; rfl) hv1.oneCell ?_; intro w cx hg8
      refine wpList_nil ?_
      refine wp_seq ?_
      refine wp_region_lit ?_
      refine s_val rfl rfl (v_move rfl hs1) ?_
      refine s_val rfl rfl (v_move rfl rfl) ?_
      refine s_val rfl rfl (v_ia Try.underlying30 sz33 rfl rfl rfl (by omega) (by omega)) ?_
      refine s_val rfl rfl (v_load rfl rfl Try.underlying33 rfl sz33 (hr2.up cx.ext) hv2.len) ?_
      refine s_alloc cx z33 rfl rfl rfl ?_; intro b9 w cx hb9 hw9
      refine s_storeAllG cx 0 rfl rfl rfl rfl rfl rfl (by rw [hlz2]; exact sz33) (by rw [hlz2]; rfl) hv2.oneCell ?_; intro w cx hg9
      refine wpList_nil ?_
      refine wp_seq ?_
      refine wp_region_lit ?_
      refine s_val rfl rfl (v_move rfl hs2) ?_
      refine s_val rfl rfl (v_load rfl rfl Try.underlying33 rfl sz33 (cx.row 1 rfl) hlz) ?_
      refine s_val rfl rfl (v_load rfl rfl Try.underlying33 rfl sz33 (cx.row 0 rfl) hlz2) ?_
      refine s_fnRB cx (H _ cx.ext i _ _ _ _ hg1 hg2 (hv1.up cx.ext) (hv2.up cx.ext)) rfl rfl (runs_fnv Try.func115 rfl rfl rfl rfl rfl) ?_; intro q29 w cx hw29 hp29
      refine s_val rfl rfl (v_not rfl rfl) ?_
      refine wpList_nil ?_
      refine c_split rfl (fun hc30 => ?_) (fun hc30 => ?_)
      · skip
        skip
        refine wp_seq ?_
        refine wp_region_lit ?_
        refine s_val rfl rfl (v_assign rfl rfl) ?_
        refine wpList_nil ?_
        refine wp_ret ?_
        refine ret_tmp Try.results116 rfl ?_
        refine ⟨cx.ext, _, rfl, ?_⟩
        constructor
        · intro h; cases h
        · intro h
          exfalso
          have h4 : (l1.map canon)[i]? = (l2.map canon)[i]? := by rw [h]
          rw [List.getElem?_map, List.getElem?_map, hg1, hg2] at h4
          have h5 := hp29.2 (Option.some.inj h4)
          rw [h5] at hc30
          cases hc30
      · skip
        skip
        refine wp_skip ?_
        refine wp_region_lit ?_
        refine s_val rfl rfl (v_add rfl hs17 rfl (by omega) (by omega)) ?_
        refine s_val rfl rfl (v_move rfl rfl) ?_
        refine wpList_nil ?_
        refine ⟨gk4 - 1, _, by omega, rfl, i + 1, by omega, hs15, hs1, hs2, hs16, rfl, by simpa using cx.drop 2, fun j x y hj hx hy => ?_⟩
        rcases Nat.lt_or_ge j i with h | h
        · exact hall j x y h hx hy
        · obtain rfl : j = i := by omega
          rw [hg1] at hx
          rw [hg2] at hy
          obtain rfl := Option.some.inj hx
          obtain rfl := Option.some.inj hy
          refine hp29.1 ?_
          cases q29
          · cases hc30
          · rfl
    · skip
      try simp only [Bool.and_eq_true, Bool.or_eq_true, Bool.and_eq_false_iff, Bool.or_eq_false_iff, Bool.not_eq_true', Bool.not_eq_false', decide_eq_true_eq, decide_eq_false_iff_not, beq_iff_eq, beq_eq_false_iff_ne, bne_iff_ne, bne_eq_false_iff_eq, ne_eq, Classical.not_not] at hc18
      refine wp_exit ?_
      refine wp_seq ?_
      refine wp_region_lit ?_
      refine s_val rfl rfl (v_assign rfl rfl) ?_
      refine wpList_nil ?_
      refine wp_ret ?_
      refine ret_tmp Try.results116 rfl ?_
      refine ⟨cx.ext, _, rfl, ?_⟩
      constructor
      · intro _
        refine List.ext_getElem (by simp; omega) fun j hj1 hj2 => ?_
        simp only [List.length_map] at hj1 hj2
        simp only [List.getElem_map]
        exact hall j _ _ (by omega) (List.getElem?_eq_getElem hj1) (List.getElem?_eq_getElem hj2)
      · intro _; rfl

set_option maxRecDepth 10000 in
theorem c117 (l1 l2 : Fs) (s1 s2 : Value) (cap : List Value) (w0 : World) (h1 : Fld w0 s1 l1) (h2 : Fld w0 s2 l2) (hb1 : l1.length ≤ 1048576) (hb2 : l2.length ≤ 1048576)
    (H : ∀ w', Below w0.heap.size w0 w' → ∀ (i : Nat) (x y : ByteArray × V) (r r' : List Value), l1[i]? = some x → l2[i]? = some y → Val w' x.2 r → Val w' y.2 r' → Fc Try.prog 118 ([.agg (.string x.1 :: r).toArray, .agg (.string y.1 :: r').toArray] ++ cap) w' (IsB fun b => b = true ↔ (x.1, canon x.2) = (y.1, canon y.2))) : Fc Try.prog 117 [s1, s2, .func (.func 118) #[] cap.toArray] w0 (IsB fun b => b = true ↔ (l1.map fun kv => (kv.1, canon kv.2)) = l2.map fun kv => (kv.1, canon kv.2)) := by
  obtain ⟨a1, c1, b1, o1, rfl, hfa1, hget1⟩ := h1.open
  obtain ⟨a2, c2, b2, o2, rfl, hfa2, hget2⟩ := h2.open
  refine ret_enter Try.func117 rfl Try.ntmps117 rfl ?_
  have cx := Ctx.start w0
  refine wp_seq ?_
  refine wp_region_lit ?_
  refine s_val rfl rfl (v_assign rfl rfl) ?_
  refine wpList_nil ?_
  refine wp_seq ?_
  refine wp_seq ?_
  refine wp_region_lit ?_
  refine s_val rfl rfl (v_move rfl rfl) ?_
  refine s_val rfl rfl (v_lenSlice rfl rfl Try.underlying31) ?_
  refine s_val rfl rfl (v_move rfl rfl) ?_
  refine s_val rfl rfl (v_lenSlice rfl rfl Try.underlying31) ?_
  refine s_val rfl rfl (v_cmp rfl rfl rfl rfl) ?_
  refine wpList_nil ?_
  refine c_split rfl (fun hc14 => ?_) (fun hc14 => ?_)
  · skip
    try simp only [Bool.and_eq_true, Bool.or_eq_true, Bool.and_eq_false_iff, Bool.or_eq_false_iff, Bool.not_eq_true', Bool.not_eq_false', decide_eq_true_eq, decide_eq_false_iff_not, beq_iff_eq, beq_eq_false_iff_ne, bne_iff_ne, bne_eq_false_iff_eq, ne_eq, Classical.not_not] at hc14
    refine wp_seq ?_
    refine wp_region_lit ?_
    refine s_val rfl rfl (v_assign rfl rfl) ?_
    refine wpList_nil ?_
    refine wp_ret ?_
    refine ret_tmp Try.results117 rfl ?_
    refine ⟨cx.ext, _, rfl, ?_⟩
    constructor
    · intro h; cases h
    · intro h
      have := congrArg List.length h
      simp at this; omega
  · skip
    try simp only [Bool.and_eq_true, Bool.or_eq_true, Bool.and_eq_false_iff, Bool.or_eq_false_iff, Bool.not_eq_true', Bool.not_eq_false', decide_eq_true_eq, decide_eq_false_iff_not, beq_iff_eq, beq_eq_false_iff_ne, bne_iff_ne, bne_eq_false_iff_eq, ne_eq, Classical.not_not] at hc14
    refine wp_skip ?_
    refine wp_seq ?_
    refine wp_seq ?_
    refine wp_region_lit ?_
    refine s_val rfl rfl (v_move rfl rfl) ?_
    refine s_val rfl rfl (v_lenSlice rfl rfl Try.underlying31) ?_
    refine s_val rfl rfl (v_move rfl rfl) ?_
    refine wpList_nil ?_
    refine wp_block ?_
    refine w_loop (fun k f w1 => ∃ i : Nat, k + i = l1.length ∧ f 15 = .slice a1 l1.length c1 ∧ f 1 = .slice a2 l2.length c2 ∧ f 2 = .func (.func 118) #[] cap.toArray ∧ f 16 = .int .i64 l1.length ∧ f 17 = .int .i64 i ∧ Ctx w0 w1 [] ∧ ∀ (j : Nat) (x y : ByteArray × V), j < i → l1[j]? = some x → l2[j]? = some y → (x.1, canon x.2) = (y.1, canon y.2)) (l1.length) ?_ ?_
    · skip
      exact ⟨0, by omega, rfl, rfl, rfl, rfl, rfl, cx, fun j x y hj => by omega⟩
    intro gk4 f w hJ
    obtain ⟨i, hki, hs15, hs1, hs2, hs16, hs17, cx, hall⟩ := hJ
    refine wp_seq ?_
    refine wp_region_lit ?_
    refine s_val rfl rfl (v_cmp rfl hs17 hs16 rfl) ?_
    refine wpList_nil ?_
    refine wp_seq ?_
    refine c_split rfl (fun hc18 => ?_) (fun hc18 => ?_)
    · skip
      try simp only [Bool.and_eq_true, Bool.or_eq_true, Bool.and_eq_false_iff, Bool.or_eq_false_iff, Bool.not_eq_true', Bool.not_eq_false', decide_eq_true_eq, decide_eq_false_iff_not, beq_iff_eq, beq_eq_false_iff_ne, bne_iff_ne, bne_eq_false_iff_eq, ne_eq, Classical.not_not] at hc18
      obtain rfl := hfa1 (by omega)
      obtain rfl := hfa2 (by omega)
      have hg1 : l1[i]? = some l1[i] := List.getElem?_eq_getElem (by omega)
      have hg2 : l2[i]? = some l2[i] := List.getElem?_eq_getElem (by omega)
      obtain ⟨r1, hr1, hv1⟩ := hget1 i _ hg1
      obtain ⟨r2, hr2, hv2⟩ := hget2 i _ hg2
      have hlz : (Value.string l1[i].1 :: r1).length = 14 := by rw [List.length_cons, hv1.len]
      have hlz2 : (Value.string l2[i].1 :: r2).length = 14 := by rw [List.length_cons, hv2.len]
      refine wp_skip ?_
      refine wp_seq ?_
      refine wp_block ?_
      refine wp_seq ?_
      refine wp_region_lit ?_
      refine s_val rfl rfl (v_move rfl hs17) ?_
      refine s_val rfl rfl (v_ia Try.underlying31 sz77 rfl hs15 hs17 (by omega) (by omega)) ?_
      refine s_val rfl rfl (v_load rfl rfl Try.underlying77 rfl sz77 (hr1.up cx.ext) hlz) ?_
      refine s_alloc cx z77 rfl rfl rfl ?_; intro b8 w cx hb8 hw8
      refine s_val rfl rfl (v_assign rfl rfl) ?_
      refine s_storeAllG cx 0 rfl rfl rfl rfl rfl rfl (by rw [hlz]; exact sz77) (by rw [hlz]; rfl) (by exact hv1.oneCell) ?_; intro w cx hg8
      refine wpList_nil ?_
      refine wp_seq ?_
      refine wp_region_lit ?_
      refine s_val rfl rfl (v_move rfl hs1) ?_
      refine s_val rfl rfl (v_move rfl rfl) ?_
      refine s_val rfl rfl (v_ia Try.underlying31 sz77 rfl rfl rfl (by omega) (by omega)) ?_
      refine s_val rfl rfl (v_load rfl rfl Try.underlying77 rfl sz77 (hr2.up cx.ext) hlz2) ?_
      refine s_alloc cx z77 rfl rfl rfl ?_; intro b9 w cx hb9 hw9
      refine s_storeAllG cx 0 rfl rfl rfl rfl rfl rfl (by rw [hlz2]; exact sz77) (by rw [hlz2]; rfl) (by exact hv2.oneCell) ?_; intro w cx hg9
      refine wpList_nil ?_
      refine wp_seq ?_
      refine wp_region_lit ?_
      refine s_val rfl rfl (v_move rfl hs2) ?_
      refine s_val rfl rfl (v_load rfl rfl Try.underlying77 rfl sz77 (cx.row 1 rfl) hlz) ?_
      refine s_val rfl rfl (v_load rfl rfl Try.underlying77 rfl sz77 (cx.row 0 rfl) hlz2) ?_
      refine s_fnRB cx (H _ cx.ext i _ _ _ _ hg1 hg2 (hv1.up cx.ext) (hv2.up cx.ext)) rfl rfl (runs_fnv Try.func118 rfl rfl rfl rfl rfl) ?_; intro q29 w cx hw29 hp29
      refine s_val rfl rfl (v_not rfl rfl) ?_
      refine wpList_nil ?_
      refine c_split rfl (fun hc30 => ?_) (fun hc30 => ?_)
      · skip
        skip
        refine wp_seq ?_
        refine wp_region_lit ?_
        refine s_val rfl rfl (v_assign rfl rfl) ?_
        refine wpList_nil ?_
        refine wp_ret ?_
        refine ret_tmp Try.results117 rfl ?_
        refine ⟨cx.ext, _, rfl, ?_⟩
        constructor
        · intro h; cases h
        · intro h
          exfalso
          have h4 : (l1.map fun kv => (kv.1, canon kv.2))[i]? = (l2.map fun kv => (kv.1, canon kv.2))[i]? := by rw [h]
          rw [List.getElem?_map, List.getElem?_map, hg1, hg2] at h4
          have h5 := hp29.2 (Option.some.inj h4)
          rw [h5] at hc30
          cases hc30
      · skip
        skip
        refine wp_skip ?_
        refine wp_region_lit ?_
        refine s_val rfl rfl (v_add rfl hs17 rfl (by omega) (by omega)) ?_
        refine s_val rfl rfl (v_move rfl rfl) ?_
        refine wpList_nil ?_
        refine ⟨gk4 - 1, _, by omega, rfl, i + 1, by omega, hs15, hs1, hs2, hs16, rfl, by simpa using cx.drop 2, fun j x y hj hx hy => ?_⟩
        rcases Nat.lt_or_ge j i with h | h
        · exact hall j x y h hx hy
        · obtain rfl : j = i := by omega
          rw [hg1] at hx
          rw [hg2] at hy
          obtain rfl := Option.some.inj hx
          obtain rfl := Option.some.inj hy
          refine hp29.1 ?_
          cases q29
          · cases hc30
          · rfl
    · skip
      try simp only [Bool.and_eq_true, Bool.or_eq_true, Bool.and_eq_false_iff, Bool.or_eq_false_iff, Bool.not_eq_true', Bool.not_eq_false', decide_eq_true_eq, decide_eq_false_iff_not, beq_iff_eq, beq_eq_false_iff_ne, bne_iff_ne, bne_eq_false_iff_eq, ne_eq, Classical.not_not] at hc18
      refine wp_exit ?_
      refine wp_seq ?_
      refine wp_region_lit ?_
      refine s_val rfl rfl (v_assign rfl rfl) ?_
      refine wpList_nil ?_
      refine wp_ret ?_
      refine ret_tmp Try.results117 rfl ?_
      refine ⟨cx.ext, _, rfl, ?_⟩
      constructor
      · intro _
        refine List.ext_getElem (by simp; omega) fun j hj1 hj2 => ?_
        simp only [List.length_map] at hj1 hj2
        simp only [List.getElem_map]
        exact hall j _ _ (by omega) (List.getElem?_eq_getElem hj1) (List.getElem?_eq_getElem hj2)
      · intro _; rfl
end Go.Proofs.Ytmkihcdcgkdilaa
