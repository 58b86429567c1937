/-
  Contract: Equal of the program.
-/
import Derived.Test.YtmkihcdcgkdilaaSh
namespace Go.Proofs.Ytmkihcdcgkdilaa
open Go Go.Dk Go.RowKit
set_option linter.unusedSimpArgs false
set_option linter.unusedVariables false
attribute [local irreducible] Go.wpList Go.Code.wp Go.bodyPost Go.wpStill Go.wpQuiet
theorem sc_iff (a b : Sc) : a = b ↔ a.kind = b.kind ∧ a.b = b.b ∧ (a.neg = b.neg ∧ a.dig = b.dig ∧ a.exp = b.exp) ∧ (a.tk = b.tk ∧ a.td = b.td ∧ a.tn = b.tn ∧ a.tz = b.tz) ∧ a.text = b.text := by
  cases a; cases b; simp [and_assoc]

set_option maxRecDepth 10000 in
theorem c115 (x y : V) (r r' : List Value) (b2 b3 : Nat) (left : Int) (w0 : World) (hx : Val w0 x r) (hy : Val w0 y r') (h2 : RowAt w0 b2 0 [.bool false]) (h3 : RowAt w0 b3 0 [.int .i64 left]) (hl0 : 0 ≤ left) (hl1 : left ≤ 65536)
    (H : ∀ w', Below w0.heap.size w0 w' → Fc Try.prog 78 [.agg r.toArray, .agg r'.toArray, .bool false, .int .i64 (left - 1)] w' (IsB fun b => b = true ↔ canon x = canon y)) : Fc Try.prog 115 [.agg r.toArray, .agg r'.toArray, .pointer (some ⟨b2, 0, none⟩), .pointer (some ⟨b3, 0, none⟩)] w0 (IsB fun b => b = true ↔ canon x = canon y) := by
  refine ret_enter Try.func115 rfl Try.ntmps115 rfl ?_
  have cx := Ctx.start w0
  refine wp_seq ?_
  refine wp_region_lit ?_
  refine s_box cx rfl rfl rfl rfl rfl ?_; intro b4 w cx hb4 hw4
  refine s_box cx rfl rfl rfl rfl rfl ?_; intro b5 w cx hb5 hw5
  refine s_val rfl rfl (v_assign rfl rfl) ?_
  refine wpList_nil ?_
  refine wp_seq ?_
  refine wp_region_lit ?_
  refine s_val rfl rfl (v_load rfl rfl Try.underlying33 rfl sz33 (cx.row 1 rfl) hx.len) ?_
  refine s_val rfl rfl (v_load rfl rfl Try.underlying33 rfl sz33 (cx.row 0 rfl) hy.len) ?_
  refine s_val rfl rfl (v_load1 rfl rfl Try.underlying4 rfl ((h2.up cx.ext).cell 0 rfl)) ?_
  refine s_val rfl rfl (v_load1 rfl rfl Try.underlying3 rfl ((h3.up cx.ext).cell 0 rfl)) ?_
  refine s_val rfl rfl (v_sub rfl rfl rfl (by omega) (by omega)) ?_
  refine s_fnB cx (H _ cx.ext) Try.func78 rfl rfl rfl rfl rfl rfl ?_; intro q12 w cx hw12 hp12
  refine s_val rfl rfl (v_assign rfl rfl) ?_
  refine wpList_nil ?_
  refine wp_ret ?_
  refine ret_tmp Try.results115 rfl ?_
  exact ⟨cx.ext, _, rfl, hp12⟩

set_option maxRecDepth 10000 in
theorem c118 (k k' : ByteArray) (x y : V) (r r' : List Value) (b11 : Nat) (cap : List Value) (w0 : World) (hx : Val w0 x r) (hy : Val w0 y r') (h11 : RowAt w0 b11 0 [.func (.func 115) #[] cap.toArray])
    (H : ∀ w', Below w0.heap.size w0 w' → Fc Try.prog 115 ([.agg r.toArray, .agg r'.toArray] ++ cap) w' (IsB fun b => b = true ↔ canon x = canon y)) : Fc Try.prog 118 [.agg (.string k :: r).toArray, .agg (.string k' :: r').toArray, .pointer (some ⟨b11, 0, none⟩)] w0 (IsB fun b => b = true ↔ (k, canon x) = (k', canon y)) := by
  refine ret_enter Try.func118 rfl Try.ntmps118 rfl ?_
  have cx := Ctx.start w0
  refine wp_seq ?_
  refine wp_region_lit ?_
  refine s_box cx rfl rfl rfl rfl rfl ?_; intro b3 w cx hb3 hw3
  refine s_box cx rfl rfl rfl rfl rfl ?_; intro b4 w cx hb4 hw4
  refine s_val rfl rfl (v_assign rfl rfl) ?_
  refine wpList_nil ?_
  refine wp_seq ?_
  refine wp_region_lit ?_
  refine s_val rfl rfl (v_fa fa77_0 rfl rfl) ?_
  refine s_val rfl rfl (v_load1 rfl rfl Try.underlying9 rfl (cx.cell 1 rfl rfl)) ?_
  refine s_val rfl rfl (v_fa fa77_0 rfl rfl) ?_
  refine s_val rfl rfl (v_load1 rfl rfl Try.underlying9 rfl (cx.cell 0 rfl rfl)) ?_
  refine s_val rfl rfl (v_strEq rfl rfl rfl) ?_
  refine s_val rfl rfl (v_move rfl rfl) ?_
  refine s_gval rfl rfl rfl (by first | exact w_tt rfl | exact w_gt rfl) (fun hc => v_load1 rfl rfl Try.underlying39 rfl ((h11.up cx.ext).cell 0 rfl)) ?_
  refine s_gval rfl rfl rfl (by first | exact w_tt rfl | exact w_gt rfl) (fun hc => v_fa fa77_1 rfl (by first | exact gve hc rfl | exact gve (and_l hc) rfl | exact gve (and_l (and_l hc)) rfl | rfl)) ?_
  refine s_gval rfl rfl rfl (by first | exact w_tt rfl | exact w_gt rfl) (fun hc => v_load rfl (gve hc rfl) Try.underlying33 rfl sz33 ((cx.row 1 rfl).tail) hx.len) ?_
  refine s_gval rfl rfl rfl (by first | exact w_tt rfl | exact w_gt rfl) (fun hc => v_fa fa77_1 rfl (by first | exact gve hc rfl | exact gve (and_l hc) rfl | exact gve (and_l (and_l hc)) rfl | rfl)) ?_
  refine s_gval rfl rfl rfl (by first | exact w_tt rfl | exact w_gt rfl) (fun hc => v_load rfl (gve hc rfl) Try.underlying33 rfl sz33 ((cx.row 0 rfl).tail) hy.len) ?_
  refine s_gfnRB cx rfl rfl rfl (by first | exact w_tt rfl | exact w_gt rfl) (fun hc => H _ cx.ext) (fun hc => runs_fnv Try.func115 rfl rfl rfl (gve hc rfl) (cons_eq (gve hc rfl) (cons_eq (gve hc rfl) rfl))) ?_; intro q17 w cx hw17 hp17
  refine s_val rfl rfl (v_and rfl rfl rfl rfl) ?_
  refine s_val rfl rfl (v_assign rfl rfl) ?_
  refine wpList_nil ?_
  refine wp_ret ?_
  refine ret_tmp Try.results118 rfl ?_
  refine ⟨cx.ext, _, rfl, ?_⟩
  show (_ && _) = true ↔ _
  rw [Bool.and_eq_true, decide_eq_true_eq, Prod.mk.injEq]
  constructor
  · rintro ⟨h1, h2⟩; exact ⟨h1, (hp17 (by simpa using h1)).1 h2⟩
  · rintro ⟨h1, h2⟩; exact ⟨h1, (hp17 (by simpa using h1)).2 h2⟩

set_option maxRecDepth 10000 in
set_option maxHeartbeats 3200000 in
theorem c78 : ∀ (d : Nat) (x y : V) (r r' : List Value) (left : Int) (w0 : World), okd d x → okd d y → Fine x → Fine y → Val w0 x r → Val w0 y r' → (d : Int) ≤ left → left ≤ 65536 → Fc Try.prog 78 [.agg r.toArray, .agg r'.toArray, .bool false, .int .i64 left] w0 (IsB fun b => b = true ↔ canon x = canon y) := by
  intro d
  induction d with
  | zero => intro x y r r' left w0 hok; exact hok.elim
  | succ d ih =>
  intro x y r r' left w0 hok hok2 hf hf2 hv hv2 hdl hl1
  have hself := hf.self
  have hself2 := hf2.self
  obtain ⟨bs, ls, fs, rfl, hbs, hls, hfs⟩ := hv.open
  obtain ⟨bs2, ls2, fs2, rfl, hbs2, hls2, hfs2⟩ := hv2.open
  refine ret_enter Try.func78 rfl Try.ntmps78 rfl ?_
  have cx := Ctx.start w0
  refine wp_seq ?_
  refine wp_region_lit ?_
  refine s_box cx rfl rfl rfl rfl rfl ?_; intro b4 w cx hb4 hw4
  refine s_box cx rfl rfl rfl rfl rfl ?_; intro b5 w cx hb5 hw5
  refine s_box cx rfl rfl rfl rfl rfl ?_; intro b6 w cx hb6 hw6
  refine s_box cx rfl rfl rfl rfl rfl ?_; intro b7 w cx hb7 hw7
  refine s_val rfl rfl (v_assign rfl rfl) ?_
  refine wpList_nil ?_
  refine wp_seq ?_
  refine wp_seq ?_
  refine wp_region_lit ?_
  refine s_val rfl rfl (v_fa fa33_0 rfl rfl) ?_
  refine s_val rfl rfl (v_load1 rfl rfl Try.underlying3 rfl (cx.cell 3 rfl rfl)) ?_
  refine s_val rfl rfl (v_fa fa33_0 rfl rfl) ?_
  refine s_val rfl rfl (v_load1 rfl rfl Try.underlying3 rfl (cx.cell 2 rfl rfl)) ?_
  refine s_val rfl rfl (v_cmp rfl rfl rfl rfl) ?_
  refine s_val rfl rfl (v_move rfl rfl) ?_
  refine s_gval rfl rfl rfl (by first | exact w_ff rfl | exact w_gf rfl) (fun hc => v_fa fa33_1 rfl (by first | exact gve hc rfl | exact gve (and_l hc) rfl | exact gve (and_l (and_l hc)) rfl | rfl)) ?_
  refine s_gval rfl rfl rfl (by first | exact w_ff rfl | exact w_gf rfl) (fun hc => v_load1 rfl (by first | exact gve hc rfl | exact gve (and_l hc) rfl | exact gve (and_l (and_l hc)) rfl | rfl) Try.underlying4 rfl (cx.cell 3 rfl rfl)) ?_
  refine s_gval rfl rfl rfl (by first | exact w_ff rfl | exact w_gf rfl) (fun hc => v_fa fa33_1 rfl (by first | exact gve hc rfl | exact gve (and_l hc) rfl | exact gve (and_l (and_l hc)) rfl | rfl)) ?_
  refine s_gval rfl rfl rfl (by first | exact w_ff rfl | exact w_gf rfl) (fun hc => v_load1 rfl (by first | exact gve hc rfl | exact gve (and_l hc) rfl | exact gve (and_l (and_l hc)) rfl | rfl) Try.underlying4 rfl (cx.cell 2 rfl rfl)) ?_
  refine s_gval rfl rfl rfl (by first | exact w_ff rfl | exact w_gf rfl) (fun hc => v_boolNe rfl (by first | exact gve hc rfl | exact gve (and_l hc) rfl | exact gve (and_l (and_l hc)) rfl | rfl) (by first | exact gve hc rfl | exact gve (and_l hc) rfl | exact gve (and_l (and_l hc)) rfl | rfl) Try.underlying4) ?_
  refine s_val rfl rfl (v_or rfl rfl rfl rfl) ?_
  refine s_val rfl rfl (v_move rfl rfl) ?_
  refine s_gval rfl rfl rfl (by first | exact w_ff rfl | exact w_gf rfl) (fun hc => v_fa fa33_2 rfl (by first | exact gve hc rfl | exact gve (and_l hc) rfl | exact gve (and_l (and_l hc)) rfl | rfl)) ?_
  refine s_gval rfl rfl rfl (by first | exact w_ff rfl | exact w_gf rfl) (fun hc => v_load rfl (by first | exact gve hc rfl | exact gve (and_l hc) rfl | exact gve (and_l (and_l hc)) rfl | rfl) Try.underlying26 rfl sz26 ((cx.row 3 rfl).r3 2 rfl rfl rfl) rfl) ?_
  refine s_gval rfl rfl rfl (by first | exact w_ff rfl | exact w_gf rfl) (fun hc => v_fa fa33_2 rfl (by first | exact gve hc rfl | exact gve (and_l hc) rfl | exact gve (and_l (and_l hc)) rfl | rfl)) ?_
  refine s_gval rfl rfl rfl (by first | exact w_ff rfl | exact w_gf rfl) (fun hc => v_load rfl (by first | exact gve hc rfl | exact gve (and_l hc) rfl | exact gve (and_l (and_l hc)) rfl | rfl) Try.underlying26 rfl sz26 ((cx.row 2 rfl).r3 2 rfl rfl rfl) rfl) ?_
  refine s_gval rfl rfl rfl (by first | exact w_ff rfl | exact w_gf rfl) (fun hc => v_agg eqg26 (ne26 _ _ _ _ _ _) rfl (by first | exact gve hc rfl | exact gve (and_l hc) rfl | exact gve (and_l (and_l hc)) rfl | rfl) (by first | exact gve hc rfl | exact gve (and_l hc) rfl | exact gve (and_l (and_l hc)) rfl | rfl)) ?_
  refine s_val rfl rfl (v_or rfl rfl rfl rfl) ?_
  refine s_val rfl rfl (v_move rfl rfl) ?_
  refine s_gval rfl rfl rfl (by first | exact w_ff rfl | exact w_gf rfl) (fun hc => v_fa fa33_3 rfl (by first | exact gve hc rfl | exact gve (and_l hc) rfl | exact gve (and_l (and_l hc)) rfl | rfl)) ?_
  refine s_gval rfl rfl rfl (by first | exact w_ff rfl | exact w_gf rfl) (fun hc => v_load rfl (by first | exact gve hc rfl | exact gve (and_l hc) rfl | exact gve (and_l (and_l hc)) rfl | rfl) Try.underlying28 rfl sz28 ((cx.row 3 rfl).r4 5 rfl rfl rfl rfl) rfl) ?_
  refine s_gval rfl rfl rfl (by first | exact w_ff rfl | exact w_gf rfl) (fun hc => v_fa fa33_3 rfl (by first | exact gve hc rfl | exact gve (and_l hc) rfl | exact gve (and_l (and_l hc)) rfl | rfl)) ?_
  refine s_gval rfl rfl rfl (by first | exact w_ff rfl | exact w_gf rfl) (fun hc => v_load rfl (by first | exact gve hc rfl | exact gve (and_l hc) rfl | exact gve (and_l (and_l hc)) rfl | rfl) Try.underlying28 rfl sz28 ((cx.row 2 rfl).r4 5 rfl rfl rfl rfl) rfl) ?_
  refine s_gval rfl rfl rfl (by first | exact w_ff rfl | exact w_gf rfl) (fun hc => v_agg eqg28 (ne28 _ _ _ _ _ _ _ _) rfl (by first | exact gve hc rfl | exact gve (and_l hc) rfl | exact gve (and_l (and_l hc)) rfl | rfl) (by first | exact gve hc rfl | exact gve (and_l hc) rfl | exact gve (and_l (and_l hc)) rfl | rfl)) ?_
  refine s_val rfl rfl (v_or rfl rfl rfl rfl) ?_
  refine s_val rfl rfl (v_move rfl rfl) ?_
  refine s_gval rfl rfl rfl (by first | exact w_ff rfl | exact w_gf rfl) (fun hc => v_fa fa33_4 rfl (by first | exact gve hc rfl | exact gve (and_l hc) rfl | exact gve (and_l (and_l hc)) rfl | rfl)) ?_
  refine s_gval rfl rfl rfl (by first | exact w_ff rfl | exact w_gf rfl) (fun hc => v_load1 rfl (by first | exact gve hc rfl | exact gve (and_l hc) rfl | exact gve (and_l (and_l hc)) rfl | rfl) Try.underlying9 rfl (cx.cell 3 rfl rfl)) ?_
  refine s_gval rfl rfl rfl (by first | exact w_ff rfl | exact w_gf rfl) (fun hc => v_fa fa33_4 rfl (by first | exact gve hc rfl | exact gve (and_l hc) rfl | exact gve (and_l (and_l hc)) rfl | rfl)) ?_
  refine s_gval rfl rfl rfl (by first | exact w_ff rfl | exact w_gf rfl) (fun hc => v_load1 rfl (by first | exact gve hc rfl | exact gve (and_l hc) rfl | exact gve (and_l (and_l hc)) rfl | rfl) Try.underlying9 rfl (cx.cell 2 rfl rfl)) ?_
  refine s_gval rfl rfl rfl (by first | exact w_ff rfl | exact w_gf rfl) (fun hc => v_strNe rfl (by first | exact gve hc rfl | exact gve (and_l hc) rfl | exact gve (and_l (and_l hc)) rfl | rfl) (by first | exact gve hc rfl | exact gve (and_l hc) rfl | exact gve (and_l (and_l hc)) rfl | rfl)) ?_
  refine s_val rfl rfl (v_or rfl rfl rfl rfl) ?_
  refine s_val rfl rfl (v_move rfl rfl) ?_
  refine s_gval rfl rfl rfl (by first | exact w_ff rfl | exact w_gf rfl) (fun hc => v_fa fa33_5 rfl (by first | exact gve hc rfl | exact gve (and_l hc) rfl | exact gve (and_l (and_l hc)) rfl | rfl)) ?_
  refine s_gval rfl rfl rfl (by first | exact w_ff rfl | exact w_gf rfl) (fun hc => v_load1 rfl (by first | exact gve hc rfl | exact gve (and_l hc) rfl | exact gve (and_l (and_l hc)) rfl | rfl) Try.underlying29 rfl (cx.cell 3 rfl rfl)) ?_
  refine s_gval rfl rfl rfl (by first | exact w_ff rfl | exact w_gf rfl) (fun hc => v_fa fa33_5 rfl (by first | exact gve hc rfl | exact gve (and_l hc) rfl | exact gve (and_l (and_l hc)) rfl | rfl)) ?_
  refine s_gval rfl rfl rfl (by first | exact w_ff rfl | exact w_gf rfl) (fun hc => v_load1 rfl (by first | exact gve hc rfl | exact gve (and_l hc) rfl | exact gve (and_l (and_l hc)) rfl | rfl) Try.underlying29 rfl (cx.cell 2 rfl rfl)) ?_
  refine s_gfnB cx rfl rfl rfl (by first | exact w_ff rfl | exact w_gf rfl) (fun hc => c113 (fun b => b < w0.heap.size) x.bytes y.bytes _ _ _ (RepB.mono (fun _ h => h) (fun b hb => cx.ext.block b hb) hbs) (RepB.mono (fun _ h => h) (fun b hb => cx.ext.block b hb) hbs2) (fun b hb => Nat.lt_of_lt_of_le hb cx.ext.size) hself.2.2.1 hself2.2.2.1) Try.func113 rfl rfl rfl (fun hc => cons_eq (by first | exact gve hc rfl | exact gve (and_l hc) rfl | exact gve (and_l (and_l hc)) rfl | rfl) (cons_eq (by first | exact gve hc rfl | exact gve (and_l hc) rfl | exact gve (and_l (and_l hc)) rfl | rfl) rfl)) ?_; intro q50 w cx hw50 hp50
  refine s_gval rfl rfl rfl (by first | exact w_ff rfl | exact w_gf rfl) (fun hc => v_not rfl (by first | exact gve hc rfl | exact gve (and_l hc) rfl | exact gve (and_l (and_l hc)) rfl | rfl)) ?_
  refine s_val rfl rfl (v_or rfl rfl rfl rfl) ?_
  refine s_val rfl rfl (v_move rfl rfl) ?_
  refine s_gval rfl rfl rfl (by first | exact w_ff rfl | exact w_gf rfl) (fun hc => v_load1 rfl (by first | exact gve hc rfl | exact gve (and_l hc) rfl | exact gve (and_l (and_l hc)) rfl | rfl) Try.underlying3 rfl (cx.cell 0 rfl rfl)) ?_
  refine s_gval rfl rfl rfl (by first | exact w_ff rfl | exact w_gf rfl) (fun hc => v_cmp rfl (by first | exact gve hc rfl | exact gve (and_l hc) rfl | exact gve (and_l (and_l hc)) rfl | rfl) rfl rfl) ?_
  refine s_val rfl rfl (v_or rfl rfl rfl rfl) ?_
  refine wpList_nil ?_
  refine c_split rfl (fun hc56 => ?_) (fun hc56 => ?_)
  · skip
    skip
    refine wp_seq ?_
    refine wp_region_lit ?_
    refine s_val rfl rfl (v_assign rfl rfl) ?_
    refine wpList_nil ?_
    refine wp_ret ?_
    refine ret_tmp Try.results78 rfl ?_
    refine ⟨cx.ext, _, rfl, ?_⟩
    constructor
    · intro h; cases h
    · intro h
      exfalso
      rw [canon_iff] at h
      obtain ⟨h1, h2, _⟩ := h
      rw [sc_iff] at h1
      obtain ⟨e1, e2, ⟨e3, e4, e5⟩, ⟨e6, e7, e8, e9⟩, e10⟩ := h1
      have e50 : q50 = true := (hp50 (by simp [e1, e2, e3, e4, e5, e6, e7, e8, e9, e10])).2 h2
      simp [e1, e2, e3, e4, e5, e6, e7, e8, e9, e10, e50] at hc56
      omega
  · skip
    skip
    have hall := hc56
    simp only [Bool.or_eq_false_iff, Bool.not_eq_false', decide_eq_false_iff_not, bne_eq_false_iff_eq, Bool.and_eq_true, decide_eq_true_eq, beq_iff_eq] at hall
    have hsc : x.sc = y.sc := by
      rw [sc_iff]
      simp_all
    have hby : x.bytes = y.bytes := by
      have hq : q50 = true := by simp_all
      exact (hp50 (by simp_all)).1 hq
    refine wp_skip ?_
    refine wp_seq ?_
    refine w_quiet cx mixed (by kernel_rfl) ?_
    skip
    refine q_val rfl rfl (fun w cx hwQ => v_fa fa33_7 rfl rfl) ?_
    refine q_val rfl rfl (fun w cx hwQ => v_load1 rfl rfl Try.underlying31 rfl (cx.cell 3 rfl rfl)) ?_
    refine q_val rfl rfl (fun w cx hwQ => v_fa fa33_7 rfl rfl) ?_
    refine q_val rfl rfl (fun w cx hwQ => v_load1 rfl rfl Try.underlying31 rfl (cx.cell 2 rfl rfl)) ?_
    refine q_val rfl rfl (fun w cx hwQ => v_assign rfl rfl) ?_
    refine q_val rfl rfl (fun w cx hwQ => v_assign rfl rfl) ?_
    refine q_nil ?_; rintro w ⟨cx, hwQ3⟩
    refine wp_seq ?_
    refine wp_seq ?_
    refine wp_region_lit ?_
    refine s_val rfl rfl (v_load1 rfl rfl Try.underlying4 rfl (cx.cell 1 rfl rfl)) ?_
    refine s_val rfl rfl (v_not rfl rfl) ?_
    refine wpList_nil ?_
    refine wp_cond_true (by rw [eval_St]; rfl) ?_
    refine w_ord cx (cx.pick2 3 2 rfl rfl rfl) mixed [(0, 63), (2, 65)] #[true, false, true, false, false, false] (by kernel_rfl) (by kernel_rfl) (by kernel_rfl) (by kernel_rfl) ?_
    refine pu_one rfl (wnt_none rfl) (fun w cx => v_load rfl rfl Try.underlying33 rfl sz33 (cx.row 0 rfl) rfl) ?_
    refine pu_one rfl (wnt_none rfl) (fun w cx => v_load rfl rfl Try.underlying33 rfl sz33 (cx.row 1 rfl) rfl) ?_
    refine pu_nil ?_; intro w cx hwD5
    refine x_one (i := 1) (by kernel_rfl) rfl ?_
    refine s_fn cx (c114 x _ _ (hv.up cx.ext) (by omega) hok.2.1) Try.func114 rfl rfl rfl rfl rfl rfl ?_; intro q64 w cx hw64 hp64
    refine x_next ⟨.inl (cx.pick2 3 2 rfl rfl rfl), ?_⟩
    refine x_one (i := 3) (by kernel_rfl) rfl ?_
    refine s_fn cx (c114 y _ _ (hv2.up cx.ext) (by omega) hok2.2.1) Try.func114 rfl rfl rfl rfl rfl rfl ?_; intro q66 w cx hw66 hp66
    replace hp64 := hp64.up hw66
    obtain ⟨wk, rfl⟩ : ∃ x, x = w := ⟨_, rfl⟩
    have hK : Kp (fun b => b < wk.heap.size) wk wk := Kp.refl (fun _ h => h)
    refine x_next ⟨.inr (by kernel_rfl), ?_⟩
    refine x_one (i := 4) (by kernel_rfl) rfl ?_
    refine s_val rfl rfl (v_assign rfl rfl) ?_
    refine x_next ⟨.inr (by kernel_rfl), ?_⟩
    refine x_one (i := 5) (by kernel_rfl) rfl ?_
    refine s_val rfl rfl (v_assign rfl rfl) ?_
    refine x_next ⟨.inr (by kernel_rfl), ?_⟩
    refine x_done (by kernel_rfl) ?_
    refine wp_seq ?_
    refine wp_region_lit ?_
    refine s_val rfl rfl (v_makeFunc2 rfl rfl rfl) ?_
    refine s_alloc cx z39 rfl rfl rfl ?_; intro b11 w cx hb11 hw11
    refine s_store1G cx 0 rfl rfl rfl rfl rfl rfl rfl rfl sz39 ?_; intro w cx hg11
    replace hK := (hK.below hw11).later hg11 (Nat.le_of_eq hb11)
    refine wpList_nil ?_
    refine wp_seq ?_
    refine wp_region_lit ?_
    refine s_val rfl rfl (v_fa fa33_6 rfl rfl) ?_
    refine s_val rfl rfl (v_load1 rfl rfl Try.underlying30 rfl (cx.cell 4 rfl rfl)) ?_
    refine s_val rfl rfl (v_fa fa33_6 rfl rfl) ?_
    refine s_val rfl rfl (v_load1 rfl rfl Try.underlying30 rfl (cx.cell 3 rfl rfl)) ?_
    have hB6 := cx.row 2 rfl
    have hB7 := cx.row 1 rfl
    have hB11 := cx.row 0 rfl
    refine s_val rfl rfl (v_load1 rfl rfl Try.underlying39 rfl (cx.cell 0 rfl rfl)) ?_
    refine s_fnB cx (c116 x.list y.list _ _ [.pointer (some ⟨b6, 0, none⟩), .pointer (some ⟨b7, 0, none⟩)] _ (hls.up cx.ext) (hls2.up cx.ext) hself.2.2.2.1 hself2.2.2.2.1 (fun w1 hb i a b ra rb ha hb1 hva hvb => c115 a b ra rb b6 b7 left w1 hva hvb (hB6.up hb) (hB7.up hb) (by omega) (by omega) fun w2 hb2 => ih a b ra rb (left - 1) w2 (hok.2.2.1 _ (List.mem_of_getElem? ha)) (hok2.2.2.1 _ (List.mem_of_getElem? hb1)) (hf.elem (List.mem_of_getElem? ha)) (hf2.elem (List.mem_of_getElem? hb1)) (hva.up hb2) (hvb.up hb2) (by omega) (by omega))) Try.func116 rfl rfl rfl rfl rfl rfl ?_; intro q73 w cx hw73 hp73
    replace hK := hK.below hw73
    refine s_val rfl rfl (v_move rfl rfl) ?_
    refine s_gval rfl rfl rfl (by first | exact w_tt rfl | exact w_gt rfl) (fun hc => v_move rfl (by first | exact gve hc rfl | exact gve (and_l hc) rfl | exact gve (and_l (and_l hc)) rfl | rfl)) ?_
    refine s_gval rfl rfl rfl (by first | exact w_tt rfl | exact w_gt rfl) (fun hc => v_move rfl (by first | exact gve hc rfl | exact gve (and_l hc) rfl | exact gve (and_l (and_l hc)) rfl | rfl)) ?_
    have hB6 := cx.row 2 rfl
    have hB7 := cx.row 1 rfl
    have hB11 := cx.row 0 rfl
    refine s_gval rfl rfl rfl (by first | exact w_tt rfl | exact w_gt rfl) (fun hc => v_makeFunc1 rfl rfl) ?_
    refine s_gfnB cx rfl rfl rfl (by first | exact w_tt rfl | exact w_gt rfl) (fun hc => c117 (sortF x.fields) (sortF y.fields) _ _ [.pointer (some ⟨b11, 0, none⟩)] _ (RepF.mono (fun b hb => Nat.lt_of_lt_of_le hb hK.sz) hK.kp hp64) (RepF.mono (fun b hb => Nat.lt_of_lt_of_le hb hK.sz) hK.kp hp66) (by rw [sortF_length]; omega) (by rw [sortF_length]; omega) (fun w1 hb i a b ra rb ha hb1 hva hvb => c118 a.1 b.1 a.2 b.2 ra rb b11 [.pointer (some ⟨b6, 0, none⟩), .pointer (some ⟨b7, 0, none⟩)] w1 hva hvb (hB11.up hb) fun w2 hb2 => c115 a.2 b.2 ra rb b6 b7 left w2 (hva.up hb2) (hvb.up hb2) ((hB6.up hb).up hb2) ((hB7.up hb).up hb2) (by omega) (by omega) fun w3 hb3 => ih a.2 b.2 ra rb (left - 1) w3 (hok.2.2.2 _ (sortF_mem.1 (List.mem_of_getElem? ha))) (hok2.2.2.2 _ (sortF_mem.1 (List.mem_of_getElem? hb1))) (hf.field (sortF_mem.1 (List.mem_of_getElem? ha))).2 (hf2.field (sortF_mem.1 (List.mem_of_getElem? hb1))).2 ((hva.up hb2).up hb3) ((hvb.up hb2).up hb3) (by omega) (by omega))) Try.func117 rfl rfl rfl (fun hc => cons_eq (gve hc rfl) (cons_eq (gve hc rfl) (cons_eq (gve hc rfl) rfl))) ?_; intro q78 w cx hw78 hp78
    refine s_val rfl rfl (v_and rfl rfl rfl rfl) ?_
    refine s_val rfl rfl (v_assign rfl rfl) ?_
    refine wpList_nil ?_
    refine wp_ret ?_
    refine ret_tmp Try.results78 rfl ?_
    refine ⟨cx.ext, _, rfl, ?_⟩
    show (_ && _) = true ↔ _
    rw [Bool.and_eq_true, canon_iff]
    constructor
    · rintro ⟨h1, h2⟩; exact ⟨hsc, hby, hp73.1 h1, (hp78 h1).1 h2⟩
    · rintro ⟨_, _, h1, h2⟩; exact ⟨hp73.2 h1, (hp78 (hp73.2 h1)).2 h2⟩

set_option maxRecDepth 10000 in
theorem c53 (d : Nat) (x y : V) (r r' : List Value) (w0 : World) (hd : d ≤ 65536) (hox : okd d x) (hoy : okd d y) (hf : Fine x) (hf2 : Fine y) (hx : Val w0 x r) (hy : Val w0 y r') : Fc Try.prog 53 [.agg r.toArray, .agg r'.toArray] w0 (IsB fun b => b = true ↔ canon x = canon y) := by
  refine ret_enter Try.func53 rfl Try.ntmps53 rfl ?_
  have cx := Ctx.start w0
  refine wp_seq ?_
  refine wp_region_lit ?_
  refine s_box cx rfl rfl rfl rfl rfl ?_; intro b2 w cx hb2 hw2
  refine s_box cx rfl rfl rfl rfl rfl ?_; intro b3 w cx hb3 hw3
  refine s_val rfl rfl (v_assign rfl rfl) ?_
  refine wpList_nil ?_
  refine wp_seq ?_
  refine wp_region_lit ?_
  refine s_val rfl rfl (v_load rfl rfl Try.underlying33 rfl sz33 (cx.row 1 rfl) hx.len) ?_
  refine s_val rfl rfl (v_load rfl rfl Try.underlying33 rfl sz33 (cx.row 0 rfl) hy.len) ?_
  refine s_fnB cx (c78 d x y _ _ _ _ hox hoy hf hf2 (hx.up cx.ext) (hy.up cx.ext) (by omega) (by omega)) Try.func78 rfl rfl rfl rfl rfl rfl ?_; intro q7 w cx hw7 hp7
  refine s_val rfl rfl (v_assign rfl rfl) ?_
  refine wpList_nil ?_
  refine wp_ret ?_
  refine ret_tmp Try.results53 rfl ?_
  exact ⟨cx.ext, _, rfl, hp7⟩
end Go.Proofs.Ytmkihcdcgkdilaa
