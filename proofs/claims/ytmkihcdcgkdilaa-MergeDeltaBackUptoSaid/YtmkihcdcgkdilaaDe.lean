/-
  Contract: the law MergeDeltas.
-/
import Derived.Test.YtmkihcdcgkdilaaDc
import Derived.Test.YtmkihcdcgkdilaaDd
import Derived.Test.YtmkihcdcgkdilaaCi
import Derived.Test.YtmkihcdcgkdilaaCb
namespace Go.Proofs.Ytmkihcdcgkdilaa
open Go Go.Dk Go.RowKit
set_option linter.unusedSimpArgs false
set_option linter.unusedVariables false
attribute [local irreducible] Go.wpList Go.Code.wp Go.bodyPost Go.wpStill Go.wpQuiet
theorem v_boolEq {P : Program} {o : Oper} {w : World} {ρ : Operand → Value} {t t' : TypeId} {x y : Operand} {a b : Bool} (ho : o.op = .binOp .eql t x y t') (hx : ρ x = .bool a) (hy : ρ y = .bool b) (hu : P.underlying t = some .bool) : (execOp ρ o).run P w = .ok (.value (.bool (a == b))) w := by
  unfold execOp; rw [ho]
  have := run_eql_bool (w := w) t a b hu
  simp [hx, hy, eqGuard, this]
theorem classic_eq : ∃ E : V → V → Bool, ∀ x y, E x y = true ↔ canon x = canon y := ⟨fun x y => @decide (canon x = canon y) (Classical.propDecidable _), fun x y => @decide_eq_true_iff _ (Classical.propDecidable _)⟩

set_option maxRecDepth 10000 in
theorem c8 (av bv : V) (ra rb : List Value) (w0 : World) (ha : Val w0 av ra) (hb : Val w0 bv rb) (hfa : Fine av) (hfb : Fine bv) (hgood : ∀ v, okd 48 v → deep 60 v → tsz 60 v ≤ 100 → Fine v → Gd 48 100 v) : Fc Try.prog 8 [.agg ra.toArray, .agg rb.toArray] w0 (IsB fun b => b = true) := by
  obtain ⟨E, hE⟩ := classic_eq
  refine ret_enter Try.func8 rfl Try.ntmps8 rfl ?_
  have cx := Ctx.start w0
  refine wp_seq ?_
  refine wp_region_lit ?_
  refine s_box cx rfl rfl rfl rfl rfl ?_; intro b2 w cx hb2 hw2
  refine s_box cx rfl rfl rfl rfl rfl ?_; intro b3 w cx hb3 hw3
  refine s_val rfl rfl (v_assign rfl rfl) ?_
  refine wpList_nil ?_
  refine wp_seq ?_
  refine wp_seq ?_
  refine wp_region_lit ?_
  refine s_val rfl rfl (v_load rfl rfl Try.underlying33 rfl sz33 (cx.row 1 rfl) ha.len) ?_
  refine s_fnB cx (c20 _ _ _ (ha.up cx.ext) hfa) Try.func20 rfl rfl rfl rfl rfl rfl ?_; intro q10 w cx hw10 hp10
  refine s_val rfl rfl (v_not rfl rfl) ?_
  refine s_val rfl rfl (v_move rfl rfl) ?_
  refine s_gval rfl rfl rfl (by first | exact w_ff rfl | exact w_gf rfl) (fun hc => v_load rfl rfl Try.underlying33 rfl sz33 (cx.row 0 rfl) hb.len) ?_
  refine s_gfnB cx rfl rfl rfl (by first | exact w_ff rfl | exact w_gf rfl) (fun hc => c20 _ _ _ (hb.up cx.ext) hfb) Try.func20 rfl rfl rfl (fun hc => (cons_eq (gve hc rfl) rfl)) ?_; intro q14 w cx hw14 hp14
  refine s_gval rfl rfl rfl (by first | exact w_ff rfl | exact w_gf rfl) (fun hc => v_not rfl (by first | exact gve hc rfl | exact gve (and_l hc) rfl | exact gve (and_l (and_l hc)) rfl | rfl)) ?_
  refine s_val rfl rfl (v_or rfl rfl rfl rfl) ?_
  refine wpList_nil ?_
  refine c_split rfl (fun hc16 => ?_) (fun hc16 => ?_)
  · skip
    try simp only [Bool.and_eq_true, Bool.or_eq_true, Bool.and_eq_false_iff, Bool.or_eq_false_iff, Bool.not_eq_true', Bool.not_eq_false', decide_eq_true_eq, decide_eq_false_iff_not, beq_iff_eq, beq_eq_false_iff_ne, bne_iff_ne, bne_eq_false_iff_eq, ne_eq, Classical.not_not] at hc16
    refine wp_seq ?_
    refine wp_region_lit ?_
    refine s_val rfl rfl (v_assign rfl rfl) ?_
    refine wpList_nil ?_
    refine wp_ret ?_
    refine ret_tmp Try.results8 rfl ?_
    exact ⟨cx.ext, _, rfl, rfl⟩
  · skip
    try simp only [Bool.and_eq_true, Bool.or_eq_true, Bool.and_eq_false_iff, Bool.or_eq_false_iff, Bool.not_eq_true', Bool.not_eq_false', decide_eq_true_eq, decide_eq_false_iff_not, beq_iff_eq, beq_eq_false_iff_ne, bne_iff_ne, bne_eq_false_iff_eq, ne_eq, Classical.not_not] at hc16
    obtain ⟨h71, h72⟩ := hc16
    subst h71
    have h71' := hp10 rfl
    have hga := hgood av h71'.1 h71'.2.1 h71'.2.2 hfa
    have h72' := hp14 rfl (by simpa using h72)
    have hgb := hgood bv h72'.1 h72'.2.1 h72'.2.2 hfb
    have hfu : Fine ((dl E 48 av bv).getD nulV) := by
      cases hd : dl E 48 av bv with
      | none => exact fine_nul
      | some u => exact dl_fine (m := 100) (m' := 100) (by omega) 48 av bv u hd hfa hfb hga.nw hgb.nw
    refine wp_skip ?_
    refine wp_seq ?_
    refine wp_region_lit ?_
    refine s_val rfl rfl (v_load rfl rfl Try.underlying33 rfl sz33 (cx.row 1 rfl) ha.len) ?_
    refine s_val rfl rfl (v_load rfl rfl Try.underlying33 rfl sz33 (cx.row 0 rfl) hb.len) ?_
    refine s_fn cx (c32 E hE 48 av bv _ _ _ (by omega) hga.ok hgb.ok hfa hfb (ha.up cx.ext) (hb.up cx.ext)) Try.func32 rfl rfl rfl rfl rfl rfl ?_; intro q20 w cx hw20 hp20
    obtain ⟨l20, rfl, hm20⟩ := hp20
    have hu := RepV.mono (A' := fun b => b < w.heap.size) (fun b hb => hb.2) (fun _ _ => rfl) _ _ hm20
    have hK : Kp (fun b => b < w.heap.size) w w := Kp.refl (fun _ h => h)
    refine s_val rfl rfl (v_move rfl rfl) ?_
    refine s_val rfl rfl (v_extract rfl rfl rfl) ?_
    refine s_val rfl rfl (v_extract rfl rfl rfl) ?_
    refine s_alloc cx z33 rfl rfl rfl ?_; intro b5 w cx hb5 hw5
    refine s_storeAllG cx 0 rfl rfl rfl rfl rfl rfl (by rw [hm20.len]; exact sz33) (by rw [hm20.len]; rfl) hm20.one ?_; intro w cx hg5
    replace hK := (hK.below hw5).later hg5 (Nat.le_of_eq hb5)
    replace hu : Val w _ l20 := RepV.mono (fun b hb => Nat.lt_of_lt_of_le hb hK.sz) hK.kp _ _ hu
    refine s_val rfl rfl (v_assign rfl rfl) ?_
    refine wpList_nil ?_
    refine wp_seq ?_
    refine wp_region_lit ?_
    refine s_val rfl rfl (v_load rfl rfl Try.underlying33 rfl sz33 (cx.row 2 rfl) ha.len) ?_
    refine s_val rfl rfl (v_load rfl rfl Try.underlying33 rfl sz33 (cx.row 1 rfl) hb.len) ?_
    refine s_fn cx (c33 E hE 48 av bv _ _ (fun b => b < w0.heap.size) _ hgb.ok hga.ok.1 hfa hfb (fun v hv => by
      obtain ⟨kv, hk, rfl⟩ := List.mem_map.1 hv
      exact ⟨47, hga.ok.2.2.2 kv hk⟩) (fun b hb => Nat.lt_of_lt_of_le hb cx.ext.size) (RepV.mono (fun _ h => h) (fun b hb => cx.ext.block b hb) _ _ ha) (RepV.mono (fun _ h => h) (fun b hb => cx.ext.block b hb) _ _ hb)) Try.func33 rfl rfl rfl rfl rfl rfl ?_; intro q26 w cx hw26 hp26
    obtain ⟨l26, rfl, hm26⟩ := hp26
    replace hu := hu.up hw26
    have hu2 : Val w ((dl E 48 av bv).getD nulV) l26 := RepV.mono (fun b hb => hb.elim (fun h => Nat.lt_of_lt_of_le h cx.ext.size) (fun h => h.2)) (fun _ _ => rfl) _ _ hm26
    have hK2 : Kp (fun b => b < w.heap.size) w w := Kp.refl (fun _ h => h)
    refine s_val rfl rfl (v_move rfl rfl) ?_
    refine s_val rfl rfl (v_extract rfl rfl rfl) ?_
    refine s_val rfl rfl (v_extract rfl rfl rfl) ?_
    refine s_alloc cx z33 rfl rfl rfl ?_; intro b7 w cx hb7 hw7
    refine s_storeAllG cx 0 rfl rfl rfl rfl rfl rfl (by rw [hm26.len]; exact sz33) (by rw [hm26.len]; rfl) hm26.one ?_; intro w cx hg7
    replace hK2 := (hK2.below hw7).later hg7 (Nat.le_of_eq hb7)
    replace hu : Val w _ l20 := RepV.mono (fun b hb => Nat.lt_of_lt_of_le hb hK2.sz) hK2.kp _ _ hu
    replace hu2 : Val w _ l26 := RepV.mono (fun b hb => Nat.lt_of_lt_of_le hb hK2.sz) hK2.kp _ _ hu2
    refine s_val rfl rfl (v_assign rfl rfl) ?_
    refine wpList_nil ?_
    refine wp_seq ?_
    refine wp_region_lit ?_
    refine s_val rfl rfl (v_move rfl rfl) ?_
    refine s_val rfl rfl (v_move rfl rfl) ?_
    refine s_val rfl rfl (v_boolEq rfl rfl rfl Try.underlying4) ?_
    refine s_val rfl rfl (v_move rfl rfl) ?_
    refine s_gval rfl rfl rfl (by first | exact w_tt rfl | exact w_gt rfl) (fun hc => v_load rfl rfl Try.underlying33 rfl sz33 (cx.row 1 rfl) hu.len) ?_
    refine s_gval rfl rfl rfl (by first | exact w_tt rfl | exact w_gt rfl) (fun hc => v_load rfl rfl Try.underlying33 rfl sz33 (cx.row 0 rfl) hu2.len) ?_
    refine s_gfnB cx rfl rfl rfl (by first | exact w_tt rfl | exact w_gt rfl) (fun hc => c22 _ _ _ _ hu hu2 hfu) Try.func22 rfl rfl rfl (fun hc => cons_eq (gve hc rfl) (cons_eq (gve hc rfl) rfl)) ?_; intro q35 w cx hw35 hp35
    refine s_val rfl rfl (v_and rfl rfl rfl rfl) ?_
    refine s_val rfl rfl (v_assign rfl rfl) ?_
    refine wpList_nil ?_
    refine wp_ret ?_
    refine ret_tmp Try.results8 rfl ?_
    refine ⟨cx.ext, _, rfl, ?_⟩
    have h35 := hp35 (by simp)
    show ((dl E 48 av bv).isSome == (dl E 48 av bv).isSome && q35) = true
    rw [h35]; simp
end Go.Proofs.Ytmkihcdcgkdilaa
