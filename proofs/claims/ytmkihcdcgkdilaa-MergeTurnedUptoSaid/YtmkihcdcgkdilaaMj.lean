/-
  Contracts: the laws MergeSame and MergeTurned.
-/
import Derived.Test.YtmkihcdcgkdilaaMi
import Derived.Test.YtmkihcdcgkdilaaRe
import Derived.Test.YtmkihcdcgkdilaaCb
namespace Go.Proofs.Ytmkihcdcgkdilaa
open Go Go.Dk Go.RowKit
set_option linter.unusedSimpArgs false
set_option linter.unusedVariables false
attribute [local irreducible] Go.wpList Go.Code.wp Go.bodyPost Go.wpStill Go.wpQuiet
theorem classic_eqM : ∃ E : V → V → Bool, ∀ x y, E x y = true ↔ canon x = canon y := ⟨fun x y => @decide (canon x = canon y) (Classical.propDecidable _), fun x y => @decide_eq_true_iff _ (Classical.propDecidable _)⟩
def trueV : V := .mk ⟨1, true, false, ByteArray.empty, 0, 0, 0, 0, 0, ByteArray.empty⟩ [] [] []
theorem gd_true (e m : Nat) : Gd (e + 1) m trueV := by
  refine ⟨⟨?_, by simp [trueV, V.fields, keysOf], fun x hx => by simp [trueV, V.list] at hx, fun x hx => by simp [trueV, V.fields] at hx⟩, fun d => ?_, fun d => ?_⟩
  · refine ⟨by decide, by decide, ?_, ?_, ?_, ?_, ?_, ?_, ?_⟩ <;> simp [trueV, V.sc, V.bytes, V.list, V.fields] <;> rfl
  · cases d with
    | zero => trivial
    | succ d => exact ⟨by simp [trueV, V.sc], by simp [trueV, V.sc], by simp [trueV, V.bytes], by simp [trueV, V.list], by simp [trueV, V.fields], fun x hx => by simp [trueV, V.list] at hx, fun x hx => by simp [trueV, V.fields] at hx⟩
  · cases d with
    | zero => trivial
    | succ d => exact ⟨by simp [trueV, V.fields], fun x hx => by simp [trueV, V.fields] at hx⟩
theorem bd33t (w : World) : (Instr.build 33 ([(0, .int .i64 1), (1, .bool true)] : List (Nat × Value)).toArray).run Try.prog w = .ok (.agg (vrow trueV.sc (.slice none 0 0) (.slice none 0 0) (.slice none 0 0)).toArray) w := by
  unfold vrow trueV V.sc
  go_simp
  rfl
theorem rep_true {A : Nat → Prop} {w : World} : RepV A w trueV (vrow trueV.sc (.slice none 0 0) (.slice none 0 0) (.slice none 0 0)) := RepV.mk (v := trueV) repB_nil repL_nil ⟨0, 0, .inl ⟨rfl, rfl⟩, trivial⟩
theorem ne_true {E : V → V → Bool} (hE : ∀ x y, E x y = true ↔ canon x = canon y) : E nulV trueV = false := by
  cases h : E nulV trueV with
  | false => rfl
  | true =>
    have := ((canon_iff _ _).1 ((hE _ _).1 h)).1
    have h2 := congrArg Sc.kind this
    exact absurd (show (0 : Int) = 1 from h2) (by decide)
theorem mg_true {E : V → V → Bool} (hE : ∀ x y, E x y = true ↔ canon x = canon y) : mg E [] 48 0 [] (some nulV) (some nulV) (some trueV) = (some trueV, []) :=
  mg_2 (by
    have h1 := ne_true hE
    have h2 : E trueV nulV = false := by rw [E_symm hE]; exact h1
    show (E nulV trueV || E trueV nulV) = false
    rw [h1, h2]; rfl) (eqO_refl hE _)

set_option maxRecDepth 10000 in
set_option maxHeartbeats 3200000 in
theorem c10 (bv xv : V) (ra rb : List Value) (w0 : World) (ha : Val w0 bv ra) (hb : Val w0 xv rb) (hfa : Fine bv) (hfb : Fine xv) : Fc Try.prog 10 [.agg ra.toArray, .agg rb.toArray] w0 (IsB fun b => b = true) := by
  obtain ⟨E, hE⟩ := classic_eqM
  refine ret_enter Try.func10 rfl Try.ntmps10 rfl ?_
  have cx := Ctx.start w0
  refine wp_seq ?_
  refine wp_region_lit ?_
  refine s_box cx rfl rfl rfl rfl rfl ?_; intro b2 w cx hb2 hw2
  refine s_box cx rfl rfl rfl rfl rfl ?_; intro b3 w cx hb3 hw3
  refine s_val rfl rfl (v_assign rfl rfl) ?_
  refine wpList_nil ?_
  refine wp_seq ?_
  refine wp_seq ?_
  refine wp_region_lit ?_
  refine s_val rfl rfl (v_load rfl rfl Try.underlying33 rfl sz33 (cx.row 1 rfl) ha.len) ?_
  refine s_fnB cx (c20 bv _ _ (ha.up cx.ext) hfa) Try.func20 rfl rfl rfl rfl rfl rfl ?_; intro q12 w cx hw12 hp12
  refine s_val rfl rfl (v_not rfl rfl) ?_
  refine s_val rfl rfl (v_move rfl rfl) ?_
  refine s_gval rfl rfl rfl (by first | exact w_ff rfl | exact w_gf rfl) (fun hc => v_load rfl rfl Try.underlying33 rfl sz33 (cx.row 0 rfl) hb.len) ?_
  refine s_gfnB cx rfl rfl rfl (by first | exact w_ff rfl | exact w_gf rfl) (fun hc => c20 xv _ _ (hb.up cx.ext) hfb) Try.func20 rfl rfl rfl (fun hc => (cons_eq (gve hc rfl) rfl)) ?_; intro q16 w cx hw16 hp16
  refine s_gval rfl rfl rfl (by first | exact w_ff rfl | exact w_gf rfl) (fun hc => v_not rfl (by first | exact gve hc rfl | exact gve (and_l hc) rfl | exact gve (and_l (and_l hc)) rfl | rfl)) ?_
  refine s_val rfl rfl (v_or rfl rfl rfl rfl) ?_
  refine wpList_nil ?_
  refine c_split rfl (fun hc18 => ?_) (fun hc18 => ?_)
  · skip
    try simp only [Bool.and_eq_true, Bool.or_eq_true, Bool.and_eq_false_iff, Bool.or_eq_false_iff, Bool.not_eq_true', Bool.not_eq_false', decide_eq_true_eq, decide_eq_false_iff_not, beq_iff_eq, beq_eq_false_iff_ne, bne_iff_ne, bne_eq_false_iff_eq, ne_eq, Classical.not_not] at hc18
    refine wp_seq ?_
    refine wp_region_lit ?_
    refine s_val rfl rfl (v_assign rfl rfl) ?_
    refine wpList_nil ?_
    refine wp_ret ?_
    refine ret_tmp Try.results10 rfl ?_
    exact ⟨cx.ext, _, rfl, rfl⟩
  · skip
    try simp only [Bool.and_eq_true, Bool.or_eq_true, Bool.and_eq_false_iff, Bool.or_eq_false_iff, Bool.not_eq_true', Bool.not_eq_false', decide_eq_true_eq, decide_eq_false_iff_not, beq_iff_eq, beq_eq_false_iff_ne, bne_iff_ne, bne_eq_false_iff_eq, ne_eq, Classical.not_not] at hc18
    have hO0 := hp12 hc18.1
    obtain ⟨o1, d1, t1⟩ := hO0
    have hO0' := hp16 (by rw [hc18.1]; rfl) hc18.2
    obtain ⟨o2, d2, t2⟩ := hO0'
    have g1 := good_valid bv o1 d1 t1 hfa
    have g2 := good_valid xv o2 d2 t2 hfb
    have hY := mg_s3 hE [] 47 0 [] bv xv
    obtain ⟨y, hmy, hyc, hyo⟩ := hY
    have hfy : Fine y := by rcases hyo with rfl | rfl <;> assumption
    refine wp_skip ?_
    refine wp_seq ?_
    refine wp_region_lit ?_
    refine s_val rfl rfl (v_load rfl rfl Try.underlying33 rfl sz33 (cx.row 1 rfl) ha.len) ?_
    refine s_val rfl rfl (v_load rfl rfl Try.underlying33 rfl sz33 (cx.row 0 rfl) hb.len) ?_
    refine s_val rfl rfl (v_load rfl rfl Try.underlying33 rfl sz33 (cx.row 0 rfl) hb.len) ?_
    have cx23c := cx
    refine s_fn cx (c34 E hE 100 (by omega) bv xv xv _ _ _ _ (ha.up cx.ext) (hb.up cx.ext) (hb.up cx.ext) g1 g2 g2 (by have := mg_few (E := E) (tk := []) ⟨o1, t1⟩ ⟨o2, t2⟩ ⟨o2, t2⟩; omega)) Try.func34 rfl rfl rfl rfl rfl rfl ?_; intro q23 w cx hw23 hp23
    rw [mg_s1 hE] at hp23
    have hO23 := hp23
    obtain ⟨l5, x5, rs5, rfl, hl5, hrow5, _⟩ := hO23
    have hP23 := own_row hrow5
    obtain ⟨xa5, xc5, rfl, _⟩ := hP23
    have hf5 := RepV.fr hl5 cx23c hw23.size
    refine s_val rfl rfl (v_move rfl rfl) ?_
    refine s_val rfl rfl (v_extract rfl rfl rfl) ?_
    refine s_val rfl rfl (v_extract rfl rfl rfl) ?_
    refine s_alloc cx z33 rfl rfl rfl ?_; intro b5 w cx hb5 hw5
    replace hf5 := (Fz.new (o := .cells (vrow (zk 0) (.slice none 0 0) (.slice none 0 0) (.slice none 0 0)).toArray 33) hb5 hw5).rep hf5
    refine s_storeAllG cx 0 rfl rfl rfl rfl rfl rfl (by rw [hl5.len]; exact sz33) (by rw [hl5.len]; rfl) hl5.one ?_; intro w cx hg5
    replace cx := cx.set0
    have hzs5 := Fz.set (i := 0) (R := []) (L := (b5, .cells (vrow (zk 0) (.slice none 0 0) (.slice none 0 0) (.slice none 0 0)).toArray 33) :: [(b3, .cells rb.toArray 33), (b2, .cells ra.toArray 33)]) (o' := .cells l5.toArray 33) rfl hg5
    replace hf5 : RepV (F w ((b5, .cells l5.toArray 33) :: [(b3, .cells rb.toArray 33), (b2, .cells ra.toArray 33)]) []) w _ _ := hzs5.rep hf5
    refine s_val rfl rfl (v_assign rfl rfl) ?_
    refine wpList_nil ?_
    refine wp_seq ?_
    refine wp_region_lit ?_
    refine s_val rfl rfl (v_load rfl rfl Try.underlying33 rfl sz33 (cx.row 2 rfl) ha.len) ?_
    refine s_val rfl rfl (v_load rfl rfl Try.underlying33 rfl sz33 (cx.row 1 rfl) hb.len) ?_
    refine s_val rfl rfl (v_load rfl rfl Try.underlying33 rfl sz33 (cx.row 2 rfl) ha.len) ?_
    have cx30c := cx
    refine s_fn cx (c34 E hE 100 (by omega) bv xv bv _ _ _ _ (ha.up cx.ext) (hb.up cx.ext) (ha.up cx.ext) g1 g2 g1 (by have := mg_few (E := E) (tk := []) ⟨o1, t1⟩ ⟨o2, t2⟩ ⟨o1, t1⟩; omega)) Try.func34 rfl rfl rfl rfl rfl rfl ?_; intro q30 w cx hw30 hp30
    rw [mg_s2 hE] at hp30
    have hO30 := hp30
    obtain ⟨l7, x7, rs7, rfl, hl7, hrow7, _⟩ := hO30
    have hP30 := own_row hrow7
    obtain ⟨xa7, xc7, rfl, _⟩ := hP30
    have hf7 := RepV.fr hl7 cx30c hw30.size
    replace hf5 := (Fz.below hw30).rep hf5
    refine s_val rfl rfl (v_move rfl rfl) ?_
    refine s_val rfl rfl (v_extract rfl rfl rfl) ?_
    refine s_val rfl rfl (v_extract rfl rfl rfl) ?_
    refine s_alloc cx z33 rfl rfl rfl ?_; intro b7 w cx hb7 hw7
    replace hf5 := (Fz.new (o := .cells (vrow (zk 0) (.slice none 0 0) (.slice none 0 0) (.slice none 0 0)).toArray 33) hb7 hw7).rep hf5
    replace hf7 := (Fz.new (o := .cells (vrow (zk 0) (.slice none 0 0) (.slice none 0 0) (.slice none 0 0)).toArray 33) hb7 hw7).rep hf7
    refine s_storeAllG cx 0 rfl rfl rfl rfl rfl rfl (by rw [hl7.len]; exact sz33) (by rw [hl7.len]; rfl) hl7.one ?_; intro w cx hg7
    replace cx := cx.set0
    have hzs7 := Fz.set (i := 0) (R := []) (L := (b7, .cells (vrow (zk 0) (.slice none 0 0) (.slice none 0 0) (.slice none 0 0)).toArray 33) :: ((b5, .cells l5.toArray 33) :: [(b3, .cells rb.toArray 33), (b2, .cells ra.toArray 33)])) (o' := .cells l7.toArray 33) rfl hg7
    replace hf5 : RepV (F w ((b7, .cells l7.toArray 33) :: ((b5, .cells l5.toArray 33) :: [(b3, .cells rb.toArray 33), (b2, .cells ra.toArray 33)])) []) w _ _ := hzs7.rep hf5
    replace hf7 : RepV (F w ((b7, .cells l7.toArray 33) :: ((b5, .cells l5.toArray 33) :: [(b3, .cells rb.toArray 33), (b2, .cells ra.toArray 33)])) []) w _ _ := hzs7.rep hf7
    refine s_val rfl rfl (v_assign rfl rfl) ?_
    refine wpList_nil ?_
    refine wp_seq ?_
    refine wp_region_lit ?_
    refine s_val rfl rfl (v_load rfl rfl Try.underlying33 rfl sz33 (cx.row 3 rfl) ha.len) ?_
    refine s_val rfl rfl (v_load rfl rfl Try.underlying33 rfl sz33 (cx.row 3 rfl) ha.len) ?_
    refine s_val rfl rfl (v_load rfl rfl Try.underlying33 rfl sz33 (cx.row 2 rfl) hb.len) ?_
    have cx37c := cx
    refine s_fn cx (c34 E hE 100 (by omega) bv bv xv _ _ _ _ (ha.up cx.ext) (ha.up cx.ext) (hb.up cx.ext) g1 g1 g2 (by have := mg_few (E := E) (tk := []) ⟨o1, t1⟩ ⟨o1, t1⟩ ⟨o2, t2⟩; omega)) Try.func34 rfl rfl rfl rfl rfl rfl ?_; intro q37 w cx hw37 hp37
    rw [hmy] at hp37
    have hO37 := hp37
    obtain ⟨l9, x9, rs9, rfl, hl9, hrow9, _⟩ := hO37
    have hP37 := own_row hrow9
    obtain ⟨xa9, xc9, rfl, _⟩ := hP37
    have hf9 := RepV.fr hl9 cx37c hw37.size
    replace hf5 := (Fz.below hw37).rep hf5
    replace hf7 := (Fz.below hw37).rep hf7
    refine s_val rfl rfl (v_move rfl rfl) ?_
    refine s_val rfl rfl (v_extract rfl rfl rfl) ?_
    refine s_val rfl rfl (v_extract rfl rfl rfl) ?_
    refine s_alloc cx z33 rfl rfl rfl ?_; intro b9 w cx hb9 hw9
    replace hf5 := (Fz.new (o := .cells (vrow (zk 0) (.slice none 0 0) (.slice none 0 0) (.slice none 0 0)).toArray 33) hb9 hw9).rep hf5
    replace hf7 := (Fz.new (o := .cells (vrow (zk 0) (.slice none 0 0) (.slice none 0 0) (.slice none 0 0)).toArray 33) hb9 hw9).rep hf7
    replace hf9 := (Fz.new (o := .cells (vrow (zk 0) (.slice none 0 0) (.slice none 0 0) (.slice none 0 0)).toArray 33) hb9 hw9).rep hf9
    refine s_storeAllG cx 0 rfl rfl rfl rfl rfl rfl (by rw [hl9.len]; exact sz33) (by rw [hl9.len]; rfl) hl9.one ?_; intro w cx hg9
    replace cx := cx.set0
    have hzs9 := Fz.set (i := 0) (R := []) (L := (b9, .cells (vrow (zk 0) (.slice none 0 0) (.slice none 0 0) (.slice none 0 0)).toArray 33) :: ((b7, .cells l7.toArray 33) :: ((b5, .cells l5.toArray 33) :: [(b3, .cells rb.toArray 33), (b2, .cells ra.toArray 33)]))) (o' := .cells l9.toArray 33) rfl hg9
    replace hf5 : RepV (F w ((b9, .cells l9.toArray 33) :: ((b7, .cells l7.toArray 33) :: ((b5, .cells l5.toArray 33) :: [(b3, .cells rb.toArray 33), (b2, .cells ra.toArray 33)]))) []) w _ _ := hzs9.rep hf5
    replace hf7 : RepV (F w ((b9, .cells l9.toArray 33) :: ((b7, .cells l7.toArray 33) :: ((b5, .cells l5.toArray 33) :: [(b3, .cells rb.toArray 33), (b2, .cells ra.toArray 33)]))) []) w _ _ := hzs9.rep hf7
    replace hf9 : RepV (F w ((b9, .cells l9.toArray 33) :: ((b7, .cells l7.toArray 33) :: ((b5, .cells l5.toArray 33) :: [(b3, .cells rb.toArray 33), (b2, .cells ra.toArray 33)]))) []) w _ _ := hzs9.rep hf9
    refine s_val rfl rfl (v_assign rfl rfl) ?_
    refine wpList_nil ?_
    refine wp_seq ?_
    refine wp_region_lit ?_
    refine s_val rfl rfl (v_move rfl rfl) ?_
    refine s_val rfl rfl (v_lenSlice rfl rfl Try.underlying50) ?_
    refine s_val rfl rfl (v_cmp rfl rfl rfl rfl) ?_
    refine s_val rfl rfl (v_move rfl rfl) ?_
    refine s_gval rfl rfl rfl (by first | exact w_tt rfl | exact w_gt rfl) (fun hc => v_move rfl (by first | exact gve hc rfl | exact gve (and_l hc) rfl | exact gve (and_l (and_l hc)) rfl | rfl)) ?_
    refine s_gval rfl rfl rfl (by first | exact w_tt rfl | exact w_gt rfl) (fun hc => v_lenSlice rfl (by first | exact gve hc rfl | exact gve (and_l hc) rfl | exact gve (and_l (and_l hc)) rfl | rfl) Try.underlying50) ?_
    refine s_gval rfl rfl rfl (by first | exact w_tt rfl | exact w_gt rfl) (fun hc => v_cmp rfl (by first | exact gve hc rfl | exact gve (and_l hc) rfl | exact gve (and_l (and_l hc)) rfl | rfl) rfl rfl) ?_
    refine s_val rfl rfl (v_and rfl rfl rfl rfl) ?_
    refine s_val rfl rfl (v_move rfl rfl) ?_
    refine s_gval rfl rfl rfl (by first | exact w_tt rfl | exact w_gt rfl) (fun hc => v_move rfl (by first | exact gve hc rfl | exact gve (and_l hc) rfl | exact gve (and_l (and_l hc)) rfl | rfl)) ?_
    refine s_gval rfl rfl rfl (by first | exact w_tt rfl | exact w_gt rfl) (fun hc => v_lenSlice rfl (by first | exact gve hc rfl | exact gve (and_l hc) rfl | exact gve (and_l (and_l hc)) rfl | rfl) Try.underlying50) ?_
    refine s_gval rfl rfl rfl (by first | exact w_tt rfl | exact w_gt rfl) (fun hc => v_cmp rfl (by first | exact gve hc rfl | exact gve (and_l hc) rfl | exact gve (and_l (and_l hc)) rfl | rfl) rfl rfl) ?_
    refine s_val rfl rfl (v_and rfl rfl rfl rfl) ?_
    refine s_val rfl rfl (v_move rfl rfl) ?_
    refine s_gval rfl rfl rfl (by first | exact w_tt rfl | exact w_gt rfl) (fun hc => v_load rfl rfl Try.underlying33 rfl sz33 (cx.row 2 rfl) hl5.len) ?_
    refine s_gval rfl rfl rfl (by first | exact w_tt rfl | exact w_gt rfl) (fun hc => v_load rfl rfl Try.underlying33 rfl sz33 (cx.row 3 rfl) hb.len) ?_
    refine s_gfnB cx rfl rfl rfl (by first | exact w_tt rfl | exact w_gt rfl) (fun hc => c22g xv xv _ _ _ hf5.val (hb.up cx.ext) hfb hfb) Try.func22 rfl rfl rfl (fun hc => (cons_eq (gve hc rfl) (cons_eq (gve hc rfl) rfl))) ?_; intro q56 w cx hw56 hp56
    replace hf7 := (Fz.below hw56).rep hf7
    replace hf9 := (Fz.below hw56).rep hf9
    refine s_val rfl rfl (v_and rfl rfl rfl rfl) ?_
    refine s_val rfl rfl (v_move rfl rfl) ?_
    refine s_gval rfl rfl rfl (by first | exact w_tt rfl | exact w_gt rfl) (fun hc => v_load rfl rfl Try.underlying33 rfl sz33 (cx.row 1 rfl) hl7.len) ?_
    refine s_gval rfl rfl rfl (by first | exact w_tt rfl | exact w_gt rfl) (fun hc => v_load rfl rfl Try.underlying33 rfl sz33 (cx.row 3 rfl) hb.len) ?_
    refine s_gfnB cx rfl rfl rfl (by first | exact w_tt rfl | exact w_gt rfl) (fun hc => c22g xv xv _ _ _ hf7.val (hb.up cx.ext) hfb hfb) Try.func22 rfl rfl rfl (fun hc => (cons_eq (gve hc rfl) (cons_eq (gve hc rfl) rfl))) ?_; intro q61 w cx hw61 hp61
    replace hf9 := (Fz.below hw61).rep hf9
    refine s_val rfl rfl (v_and rfl rfl rfl rfl) ?_
    refine s_val rfl rfl (v_move rfl rfl) ?_
    refine s_gval rfl rfl rfl (by first | exact w_tt rfl | exact w_gt rfl) (fun hc => v_load rfl rfl Try.underlying33 rfl sz33 (cx.row 0 rfl) hl9.len) ?_
    refine s_gval rfl rfl rfl (by first | exact w_tt rfl | exact w_gt rfl) (fun hc => v_load rfl rfl Try.underlying33 rfl sz33 (cx.row 3 rfl) hb.len) ?_
    refine s_gfnB cx rfl rfl rfl (by first | exact w_tt rfl | exact w_gt rfl) (fun hc => c27 y xv _ _ _ hfy hfb hf9.val (hb.up cx.ext)) Try.func27 rfl rfl rfl (fun hc => (cons_eq (gve hc rfl) (cons_eq (gve hc rfl) rfl))) ?_; intro q66 w cx hw66 hp66
    refine s_val rfl rfl (v_and rfl rfl rfl rfl) ?_
    refine s_val rfl rfl (v_assign rfl rfl) ?_
    refine wpList_nil ?_
    refine wp_ret ?_
    refine ret_tmp Try.results10 rfl ?_
    refine ⟨cx.ext, _, rfl, ?_⟩
    have e1 := (hp56 rfl).2 rfl
    have e2 := (hp61 (by rw [e1]; rfl)).2 rfl
    have e3 := (hp66 (by rw [e1, e2]; rfl)).2 hyc
    rw [e1, e2, e3]; rfl

set_option maxRecDepth 10000 in
set_option maxHeartbeats 3200000 in
theorem c11 (bv ov tv : V) (r0 r1 r2 : List Value) (w0 : World) (h0 : Val w0 bv r0) (h1 : Val w0 ov r1) (h2 : Val w0 tv r2) (hf0 : Fine bv) (hf1 : Fine ov) (hf2 : Fine tv) : Fc Try.prog 11 [.agg r0.toArray, .agg r1.toArray, .agg r2.toArray] w0 (IsB fun b => b = true) := by
  obtain ⟨E, hE⟩ := classic_eqM
  refine ret_enter Try.func11 rfl Try.ntmps11 rfl ?_
  have cx := Ctx.start w0
  refine wp_seq ?_
  refine wp_region_lit ?_
  refine s_box cx rfl rfl rfl rfl rfl ?_; intro b3 w cx hb3 hw3
  refine s_box cx rfl rfl rfl rfl rfl ?_; intro b4 w cx hb4 hw4
  refine s_box cx rfl rfl rfl rfl rfl ?_; intro b5 w cx hb5 hw5
  refine s_val rfl rfl (v_assign rfl rfl) ?_
  refine wpList_nil ?_
  refine wp_seq ?_
  refine wp_seq ?_
  refine wp_region_lit ?_
  refine s_val rfl rfl (v_load rfl rfl Try.underlying33 rfl sz33 (cx.row 2 rfl) h0.len) ?_
  refine s_fnB cx (c20 bv _ _ (h0.up cx.ext) hf0) Try.func20 rfl rfl rfl rfl rfl rfl ?_; intro q14 w cx hw14 hp14
  refine s_val rfl rfl (v_not rfl rfl) ?_
  refine s_val rfl rfl (v_move rfl rfl) ?_
  refine s_gval rfl rfl rfl (by first | exact w_ff rfl | exact w_gf rfl) (fun hc => v_load rfl rfl Try.underlying33 rfl sz33 (cx.row 1 rfl) h1.len) ?_
  refine s_gfnB cx rfl rfl rfl (by first | exact w_ff rfl | exact w_gf rfl) (fun hc => c20 ov _ _ (h1.up cx.ext) hf1) Try.func20 rfl rfl rfl (fun hc => (cons_eq (gve hc rfl) rfl)) ?_; intro q18 w cx hw18 hp18
  refine s_gval rfl rfl rfl (by first | exact w_ff rfl | exact w_gf rfl) (fun hc => v_not rfl (by first | exact gve hc rfl | exact gve (and_l hc) rfl | exact gve (and_l (and_l hc)) rfl | rfl)) ?_
  refine s_val rfl rfl (v_or rfl rfl rfl rfl) ?_
  refine s_val rfl rfl (v_move rfl rfl) ?_
  refine s_gval rfl rfl rfl (by first | exact w_ff rfl | exact w_gf rfl) (fun hc => v_load rfl rfl Try.underlying33 rfl sz33 (cx.row 0 rfl) h2.len) ?_
  refine s_gfnB cx rfl rfl rfl (by first | exact w_ff rfl | exact w_gf rfl) (fun hc => c20 tv _ _ (h2.up cx.ext) hf2) Try.func20 rfl rfl rfl (fun hc => (cons_eq (gve hc rfl) rfl)) ?_; intro q23 w cx hw23 hp23
  refine s_gval rfl rfl rfl (by first | exact w_ff rfl | exact w_gf rfl) (fun hc => v_not rfl (by first | exact gve hc rfl | exact gve (and_l hc) rfl | exact gve (and_l (and_l hc)) rfl | rfl)) ?_
  refine s_val rfl rfl (v_or rfl rfl rfl rfl) ?_
  refine wpList_nil ?_
  refine c_split rfl (fun hc25 => ?_) (fun hc25 => ?_)
  · skip
    try simp only [Bool.and_eq_true, Bool.or_eq_true, Bool.and_eq_false_iff, Bool.or_eq_false_iff, Bool.not_eq_true', Bool.not_eq_false', decide_eq_true_eq, decide_eq_false_iff_not, beq_iff_eq, beq_eq_false_iff_ne, bne_iff_ne, bne_eq_false_iff_eq, ne_eq, Classical.not_not] at hc25
    refine wp_seq ?_
    refine wp_region_lit ?_
    refine s_val rfl rfl (v_assign rfl rfl) ?_
    refine wpList_nil ?_
    refine wp_ret ?_
    refine ret_tmp Try.results11 rfl ?_
    exact ⟨cx.ext, _, rfl, rfl⟩
  · skip
    try simp only [Bool.and_eq_true, Bool.or_eq_true, Bool.and_eq_false_iff, Bool.or_eq_false_iff, Bool.not_eq_true', Bool.not_eq_false', decide_eq_true_eq, decide_eq_false_iff_not, beq_iff_eq, beq_eq_false_iff_ne, bne_iff_ne, bne_eq_false_iff_eq, ne_eq, Classical.not_not] at hc25
    have hO0 := hp14 hc25.1.1
    obtain ⟨o0, d0, t0⟩ := hO0
    have hO1 := hp18 (by rw [hc25.1.1]; rfl) hc25.1.2
    obtain ⟨o1, d1, t1⟩ := hO1
    have hO2 := hp23 (by rw [hc25.1.1, hc25.1.2]; rfl) hc25.2
    obtain ⟨o2, d2, t2⟩ := hO2
    have g0 := good_valid bv o0 d0 t0 hf0
    have g1 := good_valid ov o1 d1 t1 hf1
    have g2 := good_valid tv o2 d2 t2 hf2
    have hT := mg_turn hE 48 0 0 [] [] (some bv) (some ov) (some tv) (GdO.some g0) (GdO.some g1) (GdO.some g2)
    obtain ⟨htl, hte⟩ := hT
    have hUA := mg_some E [] 47 0 [] (some bv) ov tv
    obtain ⟨ua, hua⟩ := hUA
    have hUB := mg_some E [] 47 0 [] (some bv) tv ov
    obtain ⟨ub, hub⟩ := hUB
    have hga : Gd 48 (3 * 100) ua := mg_gd E [] (by omega) 48 0 [] _ _ _ (GdO.some g0) (GdO.some g1) (GdO.some g2) ua hua
    have hgb : Gd 48 (3 * 100) ub := mg_gd E [] (by omega) 48 0 [] _ _ _ (GdO.some g0) (GdO.some g2) (GdO.some g1) ub hub
    refine wp_skip ?_
    refine wp_seq ?_
    refine wp_region_lit ?_
    refine s_val rfl rfl (v_load rfl rfl Try.underlying33 rfl sz33 (cx.row 2 rfl) h0.len) ?_
    refine s_val rfl rfl (v_load rfl rfl Try.underlying33 rfl sz33 (cx.row 1 rfl) h1.len) ?_
    refine s_val rfl rfl (v_load rfl rfl Try.underlying33 rfl sz33 (cx.row 0 rfl) h2.len) ?_
    have cx30c := cx
    refine s_fn cx (c34 E hE 100 (by omega) bv ov tv _ _ _ _ (h0.up cx.ext) (h1.up cx.ext) (h2.up cx.ext) g0 g1 g2 (by have := mg_few (E := E) (tk := []) ⟨o0, t0⟩ ⟨o1, t1⟩ ⟨o2, t2⟩; omega)) Try.func34 rfl rfl rfl rfl rfl rfl ?_; intro q30 w cx hw30 hp30
    skip
    have hO30 := hp30
    obtain ⟨l7, x7, rs7, rfl, hl7, hrow7, _⟩ := hO30
    have hP30 := own_row hrow7
    obtain ⟨xa7, xc7, rfl, _⟩ := hP30
    have hf7 := RepV.fr hl7 cx30c hw30.size
    rw [hua] at hf7
    refine s_val rfl rfl (v_move rfl rfl) ?_
    refine s_val rfl rfl (v_extract rfl rfl rfl) ?_
    refine s_val rfl rfl (v_extract rfl rfl rfl) ?_
    refine s_alloc cx z33 rfl rfl rfl ?_; intro b7 w cx hb7 hw7
    replace hf7 := (Fz.new (o := .cells (vrow (zk 0) (.slice none 0 0) (.slice none 0 0) (.slice none 0 0)).toArray 33) hb7 hw7).rep hf7
    refine s_storeAllG cx 0 rfl rfl rfl rfl rfl rfl (by rw [hl7.len]; exact sz33) (by rw [hl7.len]; rfl) hl7.one ?_; intro w cx hg7
    replace cx := cx.set0
    have hzs7 := Fz.set (i := 0) (R := []) (L := (b7, .cells (vrow (zk 0) (.slice none 0 0) (.slice none 0 0) (.slice none 0 0)).toArray 33) :: [(b5, .cells r2.toArray 33), (b4, .cells r1.toArray 33), (b3, .cells r0.toArray 33)]) (o' := .cells l7.toArray 33) rfl hg7
    replace hf7 : RepV (F w ((b7, .cells l7.toArray 33) :: [(b5, .cells r2.toArray 33), (b4, .cells r1.toArray 33), (b3, .cells r0.toArray 33)]) []) w _ _ := hzs7.rep hf7
    refine s_val rfl rfl (v_assign rfl rfl) ?_
    refine wpList_nil ?_
    refine wp_seq ?_
    refine wp_region_lit ?_
    refine s_val rfl rfl (v_load rfl rfl Try.underlying33 rfl sz33 (cx.row 3 rfl) h0.len) ?_
    refine s_val rfl rfl (v_load rfl rfl Try.underlying33 rfl sz33 (cx.row 1 rfl) h2.len) ?_
    refine s_val rfl rfl (v_load rfl rfl Try.underlying33 rfl sz33 (cx.row 2 rfl) h1.len) ?_
    have cx37c := cx
    refine s_fn cx (c34 E hE 100 (by omega) bv tv ov _ _ _ _ (h0.up cx.ext) (h2.up cx.ext) (h1.up cx.ext) g0 g2 g1 (by have := mg_few (E := E) (tk := []) ⟨o0, t0⟩ ⟨o2, t2⟩ ⟨o1, t1⟩; omega)) Try.func34 rfl rfl rfl rfl rfl rfl ?_; intro q37 w cx hw37 hp37
    skip
    have hO37 := hp37
    obtain ⟨l9, x9, rs9, rfl, hl9, hrow9, _⟩ := hO37
    have hP37 := own_row hrow9
    obtain ⟨xa9, xc9, rfl, _⟩ := hP37
    have hf9 := RepV.fr hl9 cx37c hw37.size
    replace hf7 := (Fz.below hw37).rep hf7
    rw [hub] at hf9
    refine s_val rfl rfl (v_move rfl rfl) ?_
    refine s_val rfl rfl (v_extract rfl rfl rfl) ?_
    refine s_val rfl rfl (v_extract rfl rfl rfl) ?_
    refine s_alloc cx z33 rfl rfl rfl ?_; intro b9 w cx hb9 hw9
    replace hf7 := (Fz.new (o := .cells (vrow (zk 0) (.slice none 0 0) (.slice none 0 0) (.slice none 0 0)).toArray 33) hb9 hw9).rep hf7
    replace hf9 := (Fz.new (o := .cells (vrow (zk 0) (.slice none 0 0) (.slice none 0 0) (.slice none 0 0)).toArray 33) hb9 hw9).rep hf9
    refine s_storeAllG cx 0 rfl rfl rfl rfl rfl rfl (by rw [hl9.len]; exact sz33) (by rw [hl9.len]; rfl) hl9.one ?_; intro w cx hg9
    replace cx := cx.set0
    have hzs9 := Fz.set (i := 0) (R := []) (L := (b9, .cells (vrow (zk 0) (.slice none 0 0) (.slice none 0 0) (.slice none 0 0)).toArray 33) :: ((b7, .cells l7.toArray 33) :: [(b5, .cells r2.toArray 33), (b4, .cells r1.toArray 33), (b3, .cells r0.toArray 33)])) (o' := .cells l9.toArray 33) rfl hg9
    replace hf7 : RepV (F w ((b9, .cells l9.toArray 33) :: ((b7, .cells l7.toArray 33) :: [(b5, .cells r2.toArray 33), (b4, .cells r1.toArray 33), (b3, .cells r0.toArray 33)])) []) w _ _ := hzs9.rep hf7
    replace hf9 : RepV (F w ((b9, .cells l9.toArray 33) :: ((b7, .cells l7.toArray 33) :: [(b5, .cells r2.toArray 33), (b4, .cells r1.toArray 33), (b3, .cells r0.toArray 33)])) []) w _ _ := hzs9.rep hf9
    refine s_val rfl rfl (v_assign rfl rfl) ?_
    refine wpList_nil ?_
    refine wp_seq ?_
    refine wp_region_lit ?_
    refine s_val rfl rfl (v_build bd33 rfl rfl) ?_
    refine s_val rfl rfl (v_build bd33 rfl rfl) ?_
    refine s_val rfl rfl (v_build bd33t rfl rfl) ?_
    have cx44c := cx
    refine s_fn cx (c34 E hE 100 (by omega) nulV nulV trueV _ _ _ _ rep_nul rep_nul rep_true (gd_nul 47 100) (gd_nul 47 100) (gd_true 47 100) (by rw [mg_true hE]; simp)) Try.func34 rfl rfl rfl rfl rfl rfl ?_; intro q44 w cx hw44 hp44
    rw [mg_true hE] at hp44
    have hO44 := hp44
    obtain ⟨l11, x11, rs11, rfl, hl11, hrow11, _⟩ := hO44
    have hQ44 := hl11.open
    obtain ⟨tbs, tls, tfs, rfl, _⟩ := hQ44
    replace hf7 := (Fz.below hw44).rep hf7
    replace hf9 := (Fz.below hw44).rep hf9
    refine s_val rfl rfl (v_move rfl rfl) ?_
    refine s_val rfl rfl (v_extract rfl rfl rfl) ?_
    refine s_val rfl rfl (v_extract rfl rfl rfl) ?_
    refine s_alloc cx z33 rfl rfl rfl ?_; intro b11 w cx hb11 hw11
    replace hf7 := (Fz.new (o := .cells (vrow (zk 0) (.slice none 0 0) (.slice none 0 0) (.slice none 0 0)).toArray 33) hb11 hw11).rep hf7
    replace hf9 := (Fz.new (o := .cells (vrow (zk 0) (.slice none 0 0) (.slice none 0 0) (.slice none 0 0)).toArray 33) hb11 hw11).rep hf9
    refine s_storeAllG cx 0 rfl rfl rfl rfl rfl rfl (by rw [hl11.len]; exact sz33) (by rw [hl11.len]; rfl) hl11.one ?_; intro w cx hg11
    replace cx := cx.set0
    have hzs11 := Fz.set (i := 0) (R := []) (L := (b11, .cells (vrow (zk 0) (.slice none 0 0) (.slice none 0 0) (.slice none 0 0)).toArray 33) :: ((b9, .cells l9.toArray 33) :: ((b7, .cells l7.toArray 33) :: [(b5, .cells r2.toArray 33), (b4, .cells r1.toArray 33), (b3, .cells r0.toArray 33)]))) (o' := .cells (vrow trueV.sc tbs tls tfs).toArray 33) rfl hg11
    replace hf7 : RepV (F w ((b11, .cells (vrow trueV.sc tbs tls tfs).toArray 33) :: ((b9, .cells l9.toArray 33) :: ((b7, .cells l7.toArray 33) :: [(b5, .cells r2.toArray 33), (b4, .cells r1.toArray 33), (b3, .cells r0.toArray 33)]))) []) w _ _ := hzs11.rep hf7
    replace hf9 : RepV (F w ((b11, .cells (vrow trueV.sc tbs tls tfs).toArray 33) :: ((b9, .cells l9.toArray 33) :: ((b7, .cells l7.toArray 33) :: [(b5, .cells r2.toArray 33), (b4, .cells r1.toArray 33), (b3, .cells r0.toArray 33)]))) []) w _ _ := hzs11.rep hf9
    refine s_val rfl rfl (v_assign rfl rfl) ?_
    refine wpList_nil ?_
    refine wp_seq ?_
    refine wp_region_lit ?_
    refine s_val rfl rfl (v_move rfl rfl) ?_
    refine s_val rfl rfl (v_lenSlice rfl rfl Try.underlying50) ?_
    refine s_val rfl rfl (v_move rfl rfl) ?_
    refine s_val rfl rfl (v_lenSlice rfl rfl Try.underlying50) ?_
    refine s_val rfl rfl (v_cmp rfl rfl rfl rfl) ?_
    refine s_val rfl rfl (v_move rfl rfl) ?_
    refine s_gval rfl rfl rfl (by first | exact w_tt rfl | exact w_gt rfl) (fun hc => v_move rfl (by first | exact gve hc rfl | exact gve (and_l hc) rfl | exact gve (and_l (and_l hc)) rfl | rfl)) ?_
    refine s_gval rfl rfl rfl (by first | exact w_tt rfl | exact w_gt rfl) (fun hc => v_lenSlice rfl (by first | exact gve hc rfl | exact gve (and_l hc) rfl | exact gve (and_l (and_l hc)) rfl | rfl) Try.underlying50) ?_
    refine s_gval rfl rfl rfl (by first | exact w_tt rfl | exact w_gt rfl) (fun hc => v_cmp rfl (by first | exact gve hc rfl | exact gve (and_l hc) rfl | exact gve (and_l (and_l hc)) rfl | rfl) rfl rfl) ?_
    refine s_gval rfl rfl rfl (by first | exact w_tt rfl | exact w_gt rfl) (fun hc => v_move rfl (by first | exact gve hc rfl | exact gve (and_l hc) rfl | exact gve (and_l (and_l hc)) rfl | rfl)) ?_
    refine s_gval rfl rfl rfl (by first | exact w_ff rfl | exact w_gf rfl) (fun hc => v_load rfl rfl Try.underlying33 rfl sz33 (cx.row 2 rfl) hl7.len) ?_
    refine s_gval rfl rfl rfl (by first | exact w_ff rfl | exact w_gf rfl) (fun hc => v_load rfl rfl Try.underlying33 rfl sz33 (cx.row 1 rfl) hl9.len) ?_
    refine s_gfnB cx rfl rfl rfl (by first | exact w_ff rfl | exact w_gf rfl) (fun hc => c27 ua ub _ _ _ hga.fine hgb.fine hf7.val hf9.val) Try.func27 rfl rfl rfl (fun hc => (cons_eq (gve hc rfl) (cons_eq (gve hc rfl) rfl))) ?_; intro q59 w cx hw59 hp59
    refine s_gval rfl rfl rfl (by first | exact w_tt rfl | exact w_gt rfl) (fun hc => v_or_g hc rfl rfl rfl rfl) ?_
    refine s_val rfl rfl (v_and rfl rfl rfl rfl) ?_
    refine s_val rfl rfl (v_move rfl rfl) ?_
    refine s_gval rfl rfl rfl (by first | exact w_tt rfl | exact w_gt rfl) (fun hc => v_fa fa33_0 rfl rfl) ?_
    refine s_gval rfl rfl rfl (by first | exact w_tt rfl | exact w_gt rfl) (fun hc => v_load1 rfl (gve hc rfl) Try.underlying3 rfl (cx.cell 0 rfl rfl)) ?_
    refine s_gval rfl rfl rfl (by first | exact w_tt rfl | exact w_gt rfl) (fun hc => v_cmp rfl (gve hc rfl) rfl rfl) ?_
    refine s_val rfl rfl (v_and rfl rfl rfl rfl) ?_
    refine s_val rfl rfl (v_move rfl rfl) ?_
    refine s_gval rfl rfl rfl (by first | exact w_tt rfl | exact w_gt rfl) (fun hc => v_fa fa33_1 rfl rfl) ?_
    refine s_gval rfl rfl rfl (by first | exact w_tt rfl | exact w_gt rfl) (fun hc => v_load1 rfl (gve hc rfl) Try.underlying4 rfl (cx.cell 0 rfl rfl)) ?_
    refine s_val rfl rfl (v_and rfl rfl rfl rfl) ?_
    refine s_val rfl rfl (v_assign rfl rfl) ?_
    refine wpList_nil ?_
    refine wp_ret ?_
    refine ret_tmp Try.results11 rfl ?_
    refine ⟨cx.ext, _, rfl, ?_⟩
    have hlen : ((((mg E [] 48 0 [] (some bv) (some ov) (some tv)).2.length : Nat) : Int) == (((mg E [] 48 0 [] (some bv) (some tv) (some ov)).2.length : Nat) : Int)) = true := by rw [htl]; exact beq_self_eq_true _
    rw [hlen] at hp59
    rw [hlen]
    by_cases hz0 : (mg E [] 48 0 [] (some bv) (some ov) (some tv)).2.length = 0
    · have hgt : decide ((0 : Int) < (((mg E [] 48 0 [] (some bv) (some ov) (some tv)).2.length : Nat) : Int)) = false := by rw [hz0]; rfl
      rw [hgt] at hp59 ⊢
      have hEq := hte hz0
      rw [hua, hub] at hEq
      rw [(hp59 rfl).2 ((hE _ _).1 hEq)]; rfl
    · have hgt : decide ((0 : Int) < (((mg E [] 48 0 [] (some bv) (some ov) (some tv)).2.length : Nat) : Int)) = true := by simp; omega
      rw [hgt]; rfl
end Go.Proofs.Ytmkihcdcgkdilaa
