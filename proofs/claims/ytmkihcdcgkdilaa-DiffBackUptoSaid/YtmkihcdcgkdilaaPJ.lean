/-
  What the law DiffBack rests on: several texts in one.
-/
import Derived.Test.YtmkihcdcgkdilaaPI
section
namespace Go.Proofs.Ytmkihcdcgkdilaa
open Go Go.Dk Go.RowKit
set_option linter.unusedSimpArgs false
set_option linter.unusedVariables false
attribute [local irreducible] Go.wpList Go.Code.wp Go.bodyPost Go.wpStill
theorem el24 : Try.prog.underlying 24 = some (.slice (Try.prog.elem 24)) := by kernel_rfl
theorem es24 : (Try.prog.info? (Try.prog.elem 24)).map (·.size) = some 3 := by kernel_rfl
theorem getLast_at {α : Type} {l : List α} {i : Nat} (h : i + 1 = l.length) : l.getLast? = l[i]? := by
  rw [List.getLast?_eq_getElem?, ← h]; rfl
def stp0 : Stp := ⟨false, ⟨#[]⟩, 0⟩
theorem eq26 (a1 b1 : Bool) (a2 b2 : ByteArray) (a3 b3 : Int) (w : World) :
    (binOp .eql 26 (.agg #[.bool a1, .string a2, .int .i64 a3]) (.agg #[.bool b1, .string b2, .int .i64 b3])).run Try.prog w = .ok (.bool (a1 == b1 && (decide (a2 = b2) && a3 == b3))) w := by
  go_simp
  by_cases h1 : a1 = b1 <;> by_cases h2 : a2 = b2 <;> by_cases h3 : a3 = b3 <;> simp [h1, h2, h3, toList_inj]
theorem eq28 (a1 b1 a2 b2 a3 b3 a4 b4 : Int) (w : World) :
    (binOp .eql 28 (.agg #[.int .i64 a1, .int .i64 a2, .int .i64 a3, .int .i64 a4]) (.agg #[.int .i64 b1, .int .i64 b2, .int .i64 b3, .int .i64 b4])).run Try.prog w = .ok (.bool (a1 == b1 && (a2 == b2 && (a3 == b3 && a4 == b4)))) w := by
  go_simp
  by_cases h1 : a1 = b1 <;> by_cases h2 : a2 = b2 <;> by_cases h3 : a3 = b3 <;> by_cases h4 : a4 = b4 <;> simp [h1, h2, h3, h4]
set_option maxRecDepth 10000 in
theorem c109 (p : List Stp) (s : Value) (w0 : World) (hp : Pth w0 s p) (hl : p.length ≤ 1048576) : Fc Try.prog 109 [s] w0 (IsB fun b => b = (match p.getLast? with | some s => !s.byIndex | none => false)) := by
  obtain ⟨a, c, b, o, rfl, ha, hget⟩ := hp.form
  have hG : decide ((0 : Int) < ((p.length : Nat) : Int)) = true → a = some ⟨b, o, none⟩ ∧ RowAt w0 b (o + (p.length - 1) * 3) (srow (p.getD (p.length - 1) stp0)) := fun h => by
    have h0 := of_decide_eq_true h
    refine ⟨ha (by omega), hget _ _ ?_⟩
    rw [List.getElem?_eq_getElem (by omega), List.getD, List.getElem?_eq_getElem (by omega)]; rfl
  refine ret_enter Try.func109 rfl Try.ntmps109 rfl ?_
  have cx := Ctx.start w0
  refine wp_seq ?_
  refine wp_region_lit ?_
  refine s_val rfl rfl (v_assign rfl rfl) ?_
  refine wpList_nil ?_
  refine wp_seq ?_
  refine wp_region_lit ?_
  refine s_val rfl rfl (v_move rfl rfl) ?_
  refine s_val rfl rfl (v_lenSlice rfl rfl Try.underlying24) ?_
  refine s_val rfl rfl (v_cmp rfl rfl rfl rfl) ?_
  refine s_val rfl rfl (v_move rfl rfl) ?_
  refine s_gval rfl rfl rfl wT (fun hc => v_move rfl (by first | exact gve hc rfl | exact gve (and_l hc) rfl | exact gve (and_l (and_l hc)) rfl | rfl)) ?_
  refine s_gval rfl rfl rfl wT (fun hc => v_move rfl (by first | exact gve hc rfl | exact gve (and_l hc) rfl | exact gve (and_l (and_l hc)) rfl | rfl)) ?_
  refine s_gval rfl rfl rfl wT (fun hc => v_lenSlice rfl (gve hc rfl) Try.underlying24) ?_
  refine s_gval rfl rfl rfl wT (fun hc => v_subQ rfl (gve hc rfl) rfl (r := ((p.length - 1 : Nat) : Int)) (by have := of_decide_eq_true hc; omega) (by omega) (by omega)) ?_
  refine s_gval rfl rfl rfl wT (fun hc => v_ia Try.underlying24 sz112 rfl ((gve hc rfl).trans (congrArg (fun x => Value.slice x p.length c) (hG hc).1)) (gve hc rfl) (by omega) (by have := of_decide_eq_true hc; omega)) ?_
  refine s_gval rfl rfl rfl wT (fun hc => v_fa fa112_0 rfl (gve hc rfl)) ?_
  refine s_gval rfl rfl rfl wT (fun hc => v_load1 rfl (gve hc rfl) Try.underlying4 rfl (((hG hc).2.up cx.ext).cell 0 rfl)) ?_
  refine s_gval rfl rfl rfl wT (fun hc => v_not rfl (gve hc rfl)) ?_
  refine s_val rfl rfl (v_and rfl rfl rfl rfl) ?_
  refine s_val rfl rfl (v_assign rfl rfl) ?_
  refine wpList_nil ?_
  refine wp_ret ?_
  refine ret_tmp Try.results109 rfl ?_
  refine ⟨cx.ext, _, rfl, ?_⟩
  cases hq : p.getLast? with
  | none =>
    have h0 : p = [] := List.getLast?_eq_none_iff.1 hq
    subst h0
    rfl
  | some s =>
    have h0 : p ≠ [] := fun e => by subst e; cases hq
    have hl0 : 0 < p.length := List.length_pos_iff.2 h0
    rw [getLast_at (i := p.length - 1) (by omega), List.getElem?_eq_getElem (by omega)] at hq
    obtain rfl : p[p.length - 1] = s := by simpa using hq
    rw [decide_eq_true (by omega : (0 : Int) < (p.length : Int)), Bool.true_and]
    simp [List.getD, List.getElem?_eq_getElem (show p.length - 1 < p.length by omega)]
set_option maxRecDepth 10000 in
theorem c72 (c : Ch) (r : List Value) (w0 : World) (hc : Chg w0 c r) : Fc Try.prog 72 [.agg r.toArray] w0 (IsB fun b => b = ((c.op == 2) || (c.op == 3))) := by
  obtain ⟨ps, b1, l1, f1, b2, l2, f2, rfl, _, _, _, _⟩ := hc.form
  refine ret_enter Try.func72 rfl Try.ntmps72 rfl ?_
  have cx := Ctx.start w0
  refine wp_seq ?_
  refine wp_region_lit ?_
  refine s_box cx rfl rfl rfl rfl rfl ?_; intro b1 w cx hb1 hw1
  refine s_val rfl rfl (v_assign rfl rfl) ?_
  refine wpList_nil ?_
  refine wp_seq ?_
  refine wp_region_lit ?_
  refine s_val rfl rfl (v_fa fa35_0 rfl rfl) ?_
  refine s_val rfl rfl (v_load1 rfl rfl Try.underlying3 rfl (cx.cell 0 rfl rfl)) ?_
  refine s_val rfl rfl (v_cmp rfl rfl rfl rfl) ?_
  refine s_val rfl rfl (v_move rfl rfl) ?_
  refine s_gval rfl rfl rfl wF (fun hc => v_fa fa35_0 rfl (by first | exact gve hc rfl | exact gve (and_l hc) rfl | exact gve (and_l (and_l hc)) rfl | rfl)) ?_
  refine s_gval rfl rfl rfl wF (fun hc => v_load1 rfl (by first | exact gve hc rfl | exact gve (and_l hc) rfl | exact gve (and_l (and_l hc)) rfl | rfl) Try.underlying3 rfl (cx.cell 0 rfl rfl)) ?_
  refine s_gval rfl rfl rfl wF (fun hc => v_cmp rfl (by first | exact gve hc rfl | exact gve (and_l hc) rfl | exact gve (and_l (and_l hc)) rfl | rfl) rfl rfl) ?_
  refine s_val rfl rfl (v_or rfl rfl rfl rfl) ?_
  refine s_val rfl rfl (v_assign rfl rfl) ?_
  refine wpList_nil ?_
  refine wp_ret ?_
  refine ret_tmp Try.results72 rfl ?_
  exact ⟨cx.ext, _, rfl, rfl⟩
set_option maxRecDepth 10000 in
theorem c128 (r : List Value) (w0 : World) (hv : Val w0 nulV r) : Fc Try.prog 128 [.agg r.toArray] w0 (IsB fun b => b = true) := by
  obtain ⟨bs, ls, fs, rfl, hbs, hls, hfs⟩ := hv.open
  obtain ⟨ba, bc, bb, bo, rfl, _, _⟩ := hbs.form
  obtain ⟨la, lc, lb, lo, rfl, _, _⟩ := hls.open
  obtain ⟨fa, fc, fb, fo, rfl, _, _⟩ := hfs.open
  refine ret_enter Try.func128 rfl Try.ntmps128 rfl ?_
  have cx := Ctx.start w0
  refine wp_seq ?_
  refine wp_region_lit ?_
  refine s_box cx rfl rfl rfl rfl rfl ?_; intro b1 w cx hb1 hw1
  refine s_val rfl rfl (v_assign rfl rfl) ?_
  refine wpList_nil ?_
  refine wp_seq ?_
  refine wp_region_lit ?_
  refine s_val rfl rfl (v_fa fa33_0 rfl rfl) ?_
  refine s_val rfl rfl (v_load1 rfl rfl Try.underlying3 rfl (cx.cell 0 rfl rfl)) ?_
  refine s_val rfl rfl (v_cmp rfl rfl rfl rfl) ?_
  refine s_val rfl rfl (v_move rfl rfl) ?_
  refine s_gval rfl rfl rfl wT (fun hc => v_fa fa33_1 rfl (by first | exact gve hc rfl | exact gve (and_l hc) rfl | exact gve (and_l (and_l hc)) rfl | rfl)) ?_
  refine s_gval rfl rfl rfl wT (fun hc => v_load1 rfl (by first | exact gve hc rfl | exact gve (and_l hc) rfl | exact gve (and_l (and_l hc)) rfl | rfl) Try.underlying4 rfl (cx.cell 0 rfl rfl)) ?_
  refine s_gval rfl rfl rfl wT (fun hc => v_not rfl (by first | exact gve hc rfl | exact gve (and_l hc) rfl | exact gve (and_l (and_l hc)) rfl | rfl)) ?_
  refine s_val rfl rfl (v_and rfl rfl rfl rfl) ?_
  refine s_val rfl rfl (v_move rfl rfl) ?_
  refine s_gval rfl rfl rfl wT (fun hc => v_fa fa33_2 rfl (by first | exact gve hc rfl | exact gve (and_l hc) rfl | exact gve (and_l (and_l hc)) rfl | rfl)) ?_
  refine s_gval rfl rfl rfl wT (fun hc => v_load rfl (by first | exact gve hc rfl | exact gve (and_l hc) rfl | exact gve (and_l (and_l hc)) rfl | rfl) Try.underlying26 rfl sz26 ((cx.row 0 rfl).r3 2 rfl rfl rfl) rfl) ?_
  refine s_gval rfl rfl rfl wT (fun hc => v_build bd26 rfl rfl) ?_
  refine s_gval rfl rfl rfl wT (fun hc => v_agg eqg26 (eq26 _ _ _ _ _ _) rfl (gve hc rfl) (gve hc rfl)) ?_
  refine s_val rfl rfl (v_and rfl rfl rfl rfl) ?_
  refine s_val rfl rfl (v_move rfl rfl) ?_
  refine s_gval rfl rfl rfl wT (fun hc => v_fa fa33_3 rfl (by first | exact gve hc rfl | exact gve (and_l hc) rfl | exact gve (and_l (and_l hc)) rfl | rfl)) ?_
  refine s_gval rfl rfl rfl wT (fun hc => v_load rfl (by first | exact gve hc rfl | exact gve (and_l hc) rfl | exact gve (and_l (and_l hc)) rfl | rfl) Try.underlying28 rfl sz28 ((cx.row 0 rfl).r4 5 rfl rfl rfl rfl) rfl) ?_
  refine s_gval rfl rfl rfl wT (fun hc => v_build bd28 rfl rfl) ?_
  refine s_gval rfl rfl rfl wT (fun hc => v_agg eqg28 (eq28 _ _ _ _ _ _ _ _) rfl (gve hc rfl) (gve hc rfl)) ?_
  refine s_val rfl rfl (v_and rfl rfl rfl rfl) ?_
  refine s_val rfl rfl (v_move rfl rfl) ?_
  refine s_gval rfl rfl rfl wT (fun hc => v_fa fa33_4 rfl (by first | exact gve hc rfl | exact gve (and_l hc) rfl | exact gve (and_l (and_l hc)) rfl | rfl)) ?_
  refine s_gval rfl rfl rfl wT (fun hc => v_load1 rfl (by first | exact gve hc rfl | exact gve (and_l hc) rfl | exact gve (and_l (and_l hc)) rfl | rfl) Try.underlying9 rfl (cx.cell 0 rfl rfl)) ?_
  refine s_gval rfl rfl rfl wT (fun hc => v_strEq rfl (by first | exact gve hc rfl | exact gve (and_l hc) rfl | exact gve (and_l (and_l hc)) rfl | rfl) rfl) ?_
  refine s_val rfl rfl (v_and rfl rfl rfl rfl) ?_
  refine s_val rfl rfl (v_move rfl rfl) ?_
  refine s_gval rfl rfl rfl wT (fun hc => v_fa fa33_5 rfl (by first | exact gve hc rfl | exact gve (and_l hc) rfl | exact gve (and_l (and_l hc)) rfl | rfl)) ?_
  refine s_gval rfl rfl rfl wT (fun hc => v_load1 rfl (by first | exact gve hc rfl | exact gve (and_l hc) rfl | exact gve (and_l (and_l hc)) rfl | rfl) Try.underlying29 rfl (cx.cell 0 rfl rfl)) ?_
  refine s_gval rfl rfl rfl wT (fun hc => v_lenSlice rfl (by first | exact gve hc rfl | exact gve (and_l hc) rfl | exact gve (and_l (and_l hc)) rfl | rfl) Try.underlying29) ?_
  refine s_gval rfl rfl rfl wT (fun hc => v_cmp rfl (by first | exact gve hc rfl | exact gve (and_l hc) rfl | exact gve (and_l (and_l hc)) rfl | rfl) rfl rfl) ?_
  refine s_val rfl rfl (v_and rfl rfl rfl rfl) ?_
  refine s_val rfl rfl (v_move rfl rfl) ?_
  refine s_gval rfl rfl rfl wT (fun hc => v_fa fa33_6 rfl (by first | exact gve hc rfl | exact gve (and_l hc) rfl | exact gve (and_l (and_l hc)) rfl | rfl)) ?_
  refine s_gval rfl rfl rfl wT (fun hc => v_load1 rfl (by first | exact gve hc rfl | exact gve (and_l hc) rfl | exact gve (and_l (and_l hc)) rfl | rfl) Try.underlying30 rfl (cx.cell 0 rfl rfl)) ?_
  refine s_gval rfl rfl rfl wT (fun hc => v_lenSlice rfl (by first | exact gve hc rfl | exact gve (and_l hc) rfl | exact gve (and_l (and_l hc)) rfl | rfl) Try.underlying30) ?_
  refine s_gval rfl rfl rfl wT (fun hc => v_cmp rfl (by first | exact gve hc rfl | exact gve (and_l hc) rfl | exact gve (and_l (and_l hc)) rfl | rfl) rfl rfl) ?_
  refine s_val rfl rfl (v_and rfl rfl rfl rfl) ?_
  refine s_val rfl rfl (v_move rfl rfl) ?_
  refine s_gval rfl rfl rfl wT (fun hc => v_fa fa33_7 rfl (by first | exact gve hc rfl | exact gve (and_l hc) rfl | exact gve (and_l (and_l hc)) rfl | rfl)) ?_
  refine s_gval rfl rfl rfl wT (fun hc => v_load1 rfl (by first | exact gve hc rfl | exact gve (and_l hc) rfl | exact gve (and_l (and_l hc)) rfl | rfl) Try.underlying31 rfl (cx.cell 0 rfl rfl)) ?_
  refine s_gval rfl rfl rfl wT (fun hc => v_lenSlice rfl (by first | exact gve hc rfl | exact gve (and_l hc) rfl | exact gve (and_l (and_l hc)) rfl | rfl) Try.underlying31) ?_
  refine s_gval rfl rfl rfl wT (fun hc => v_cmp rfl (by first | exact gve hc rfl | exact gve (and_l hc) rfl | exact gve (and_l (and_l hc)) rfl | rfl) rfl rfl) ?_
  refine s_val rfl rfl (v_and rfl rfl rfl rfl) ?_
  refine s_val rfl rfl (v_assign rfl rfl) ?_
  refine wpList_nil ?_
  refine wp_ret ?_
  refine ret_tmp Try.results128 rfl ?_
  exact ⟨cx.ext, _, rfl, rfl⟩
end Go.Proofs.Ytmkihcdcgkdilaa
end
section
namespace Go.Proofs.Ytmkihcdcgkdilaa
open Go Go.Dk Go.RowKit
set_option linter.unusedSimpArgs false
set_option linter.unusedVariables false
attribute [local irreducible] Go.wpList Go.Code.wp Go.bodyPost Go.wpStill
set_option maxRecDepth 10000 in
theorem c127 (p : List Stp) (s : Value) (w0 : World) (hp : Pth w0 s p) (hk : POk p) : Fc Try.prog 127 [s] w0 (IsB fun b => b = true) := by
  obtain ⟨a, c, b, o, rfl, ha, hget⟩ := hp.form
  have hpl := hk.1
  refine ret_enter Try.func127 rfl Try.ntmps127 rfl ?_
  have cx := Ctx.start w0
  refine wp_seq ?_
  refine wp_region_lit ?_
  refine s_val rfl rfl (v_assign rfl rfl) ?_
  refine wpList_nil ?_
  refine wp_seq ?_
  refine wp_seq ?_
  refine wp_region_lit ?_
  refine s_val rfl rfl (v_move rfl rfl) ?_
  refine s_val rfl rfl (v_lenSlice rfl rfl Try.underlying24) ?_
  refine s_val rfl rfl (v_cmp rfl rfl rfl rfl) ?_
  refine wpList_nil ?_
  refine c_split rfl (fun hc6 => ?_) (fun hc6 => ?_)
  · skip
    exfalso
    have := of_decide_eq_true hc6
    omega
  refine wp_skip ?_
  refine wp_seq ?_
  refine wp_seq ?_
  refine wp_region_lit ?_
  refine s_val rfl rfl (v_assign rfl rfl) ?_
  refine wpList_nil ?_
  refine wp_block ?_
  refine w_loop (fun k f w1 => ∃ i : Nat, k + i = p.length ∧ f 0 = .slice a p.length c ∧ f 3 = .int .i64 (i : Nat) ∧ Ctx w0 w1 []) (p.length) ?_ ?_
  · skip
    exact ⟨0, by omega, rfl, rfl, cx⟩
  intro gk4 f w hJ
  obtain ⟨i, hki, hs0, hs3, cx⟩ := hJ
  refine wp_seq ?_
  refine wp_seq ?_
  refine wp_region_lit ?_
  refine s_val rfl rfl (v_move rfl hs3) ?_
  refine s_val rfl rfl (v_move rfl hs0) ?_
  refine s_val rfl rfl (v_lenSlice rfl rfl Try.underlying24) ?_
  refine s_val rfl rfl (v_cmp rfl rfl rfl rfl) ?_
  refine wpList_nil ?_
  refine c_split rfl (fun hc10 => ?_) (fun hc10 => ?_)
  · skip
    try simp only [bsl] at hc10
    obtain rfl := ha (by omega)
    have hr := hget i p[i] (List.getElem?_eq_getElem (by omega))
    have hsk := hk.2 p[i] (List.getElem_mem _)
    have hks : p[i].key.size ≤ 1024 := by
      cases hb : p[i].byIndex with
      | true => rw [(hsk.1 hb).1]; exact Nat.zero_le _
      | false => exact (hsk.2 hb).2.1
    refine wp_skip ?_
    refine wp_seq ?_
    refine wp_block ?_
    refine wp_seq ?_
    refine wp_seq ?_
    refine wp_region_lit ?_
    refine s_val rfl rfl (v_move rfl hs0) ?_
    refine s_val rfl rfl (v_move rfl hs3) ?_
    refine s_val rfl rfl (v_ia Try.underlying24 sz112 rfl rfl rfl (by omega) (by omega)) ?_
    refine s_val rfl rfl (v_fa fa112_0 rfl rfl) ?_
    refine s_val rfl rfl (v_load1 rfl rfl Try.underlying4 rfl ((hr.up cx.ext).cell 0 rfl)) ?_
    refine s_val rfl rfl (v_move rfl rfl) ?_
    refine s_gval rfl rfl rfl wT (fun hc => v_move rfl hs0) ?_
    refine s_gval rfl rfl rfl wT (fun hc => v_move rfl hs3) ?_
    refine s_gval rfl rfl rfl wT (fun hc => v_ia Try.underlying24 sz112 rfl (gve hc rfl) (gve hc rfl) (by omega) (by omega)) ?_
    refine s_gval rfl rfl rfl wT (fun hc => v_fa fa112_1 rfl (gve hc rfl)) ?_
    refine s_gval rfl rfl rfl wT (fun hc => v_load1 rfl (gve hc rfl) Try.underlying9 rfl ((hr.up cx.ext).cell 1 rfl)) ?_
    refine s_gval rfl rfl rfl wT (fun hc => v_strNe rfl (gve hc rfl) rfl) ?_
    refine s_gval rfl rfl rfl wT (fun hc => v_move rfl (by first | exact gve hc rfl | exact gve (and_l hc) rfl | exact gve (and_l (and_l hc)) rfl | rfl)) ?_
    refine s_gval rfl rfl rfl wF (fun hc => v_move rfl hs0) ?_
    refine s_gval rfl rfl rfl wF (fun hc => v_move rfl hs3) ?_
    refine s_gval rfl rfl rfl wF (fun hc => v_ia Try.underlying24 sz112 rfl (gve hc rfl) (gve hc rfl) (by omega) (by omega)) ?_
    refine s_gval rfl rfl rfl wF (fun hc => v_fa fa112_2 rfl (gve hc rfl)) ?_
    refine s_gval rfl rfl rfl wF (fun hc => v_load1 rfl (gve hc rfl) Try.underlying3 rfl ((hr.up cx.ext).cell 2 rfl)) ?_
    refine s_gval rfl rfl rfl wF (fun hc => v_cmp rfl (gve hc rfl) rfl rfl) ?_
    refine s_gval rfl rfl rfl wT (fun hc => v_or_g hc rfl rfl rfl rfl) ?_
    refine s_gval rfl rfl rfl wT (fun hc => v_move rfl (by first | exact gve hc rfl | exact gve (and_l hc) rfl | exact gve (and_l (and_l hc)) rfl | rfl)) ?_
    refine s_gval rfl rfl rfl wF (fun hc => v_move rfl hs0) ?_
    refine s_gval rfl rfl rfl wF (fun hc => v_move rfl hs3) ?_
    refine s_gval rfl rfl rfl wF (fun hc => v_ia Try.underlying24 sz112 rfl (gve hc rfl) (gve hc rfl) (by omega) (by omega)) ?_
    refine s_gval rfl rfl rfl wF (fun hc => v_fa fa112_2 rfl (gve hc rfl)) ?_
    refine s_gval rfl rfl rfl wF (fun hc => v_load1 rfl (gve hc rfl) Try.underlying3 rfl ((hr.up cx.ext).cell 2 rfl)) ?_
    refine s_gval rfl rfl rfl wF (fun hc => v_cmp rfl (gve hc rfl) rfl rfl) ?_
    refine s_gval rfl rfl rfl wT (fun hc => v_or_g hc rfl rfl rfl rfl) ?_
    refine s_val rfl rfl (v_and rfl rfl rfl rfl) ?_
    refine wpList_nil ?_
    refine c_split rfl (fun hc41 => ?_) (fun hc41 => ?_)
    · skip
      try simp only [bsl] at hc41
      exfalso
      obtain ⟨h1, h2⟩ := hc41
      obtain ⟨h3, h4, h5⟩ := hsk.1 h1
      rcases h2 with (h2 | h2) | h2
      · exact h2 h3
      · omega
      · omega
    try simp only [bsl] at hc41
    refine wp_skip ?_
    refine wp_seq ?_
    refine wp_region_lit ?_
    refine s_val rfl rfl (v_move rfl hs0) ?_
    refine s_val rfl rfl (v_move rfl hs3) ?_
    refine s_val rfl rfl (v_ia Try.underlying24 sz112 rfl rfl rfl (by omega) (by omega)) ?_
    refine s_val rfl rfl (v_fa fa112_0 rfl rfl) ?_
    refine s_val rfl rfl (v_load1 rfl rfl Try.underlying4 rfl ((hr.up cx.ext).cell 0 rfl)) ?_
    refine s_val rfl rfl (v_not rfl rfl) ?_
    refine s_val rfl rfl (v_move rfl rfl) ?_
    refine s_gval rfl rfl rfl wT (fun hc => v_move rfl hs0) ?_
    refine s_gval rfl rfl rfl wT (fun hc => v_move rfl hs3) ?_
    refine s_gval rfl rfl rfl wT (fun hc => v_ia Try.underlying24 sz112 rfl (gve hc rfl) (gve hc rfl) (by omega) (by omega)) ?_
    refine s_gval rfl rfl rfl wT (fun hc => v_fa fa112_2 rfl (gve hc rfl)) ?_
    refine s_gval rfl rfl rfl wT (fun hc => v_load1 rfl (gve hc rfl) Try.underlying3 rfl ((hr.up cx.ext).cell 2 rfl)) ?_
    refine s_gval rfl rfl rfl wT (fun hc => v_cmp rfl (gve hc rfl) rfl rfl) ?_
    refine s_gval rfl rfl rfl wT (fun hc => v_move rfl (by first | exact gve hc rfl | exact gve (and_l hc) rfl | exact gve (and_l (and_l hc)) rfl | rfl)) ?_
    refine s_gval rfl rfl rfl wF (fun hc => v_move rfl hs0) ?_
    refine s_gval rfl rfl rfl wF (fun hc => v_move rfl hs3) ?_
    refine s_gval rfl rfl rfl wF (fun hc => v_ia Try.underlying24 sz112 rfl (gve hc rfl) (gve hc rfl) (by omega) (by omega)) ?_
    refine s_gval rfl rfl rfl wF (fun hc => v_fa fa112_1 rfl (gve hc rfl)) ?_
    refine s_gval rfl rfl rfl wF (fun hc => v_load1 rfl (gve hc rfl) Try.underlying9 rfl ((hr.up cx.ext).cell 1 rfl)) ?_
    refine s_gval rfl rfl rfl wF (fun hc => v_lenString rfl (gve hc rfl) Try.underlying9) ?_
    refine s_gval rfl rfl rfl wF (fun hc => v_cmp rfl (gve hc rfl) rfl rfl) ?_
    refine s_gval rfl rfl rfl wT (fun hc => v_or_g hc rfl rfl rfl rfl) ?_
    refine s_gval rfl rfl rfl wT (fun hc => v_move rfl (by first | exact gve hc rfl | exact gve (and_l hc) rfl | exact gve (and_l (and_l hc)) rfl | rfl)) ?_
    refine s_gval rfl rfl rfl wF (fun hc => v_move rfl hs0) ?_
    refine s_gval rfl rfl rfl wF (fun hc => v_move rfl hs3) ?_
    refine s_gval rfl rfl rfl wF (fun hc => v_ia Try.underlying24 sz112 rfl (gve hc rfl) (gve hc rfl) (by omega) (by omega)) ?_
    refine s_gval rfl rfl rfl wF (fun hc => v_fa fa112_1 rfl (gve hc rfl)) ?_
    refine s_gval rfl rfl rfl wF (fun hc => v_load1 rfl (gve hc rfl) Try.underlying9 rfl ((hr.up cx.ext).cell 1 rfl)) ?_
    refine s_gfnB cx rfl rfl rfl wF (fun hc => c134x _ _ (by omega)) Try.func134 rfl rfl rfl (fun hc => cons_eq (gve hc rfl) rfl) ?_; intro q70 w cx hw70 hp70
    refine s_gval rfl rfl rfl wF (fun hc => v_not rfl (by first | exact gve hc rfl | exact gve (and_l hc) rfl | exact gve (and_l (and_l hc)) rfl | rfl)) ?_
    refine s_gval rfl rfl rfl wT (fun hc => v_or_g hc rfl rfl rfl rfl) ?_
    refine s_val rfl rfl (v_and rfl rfl rfl rfl) ?_
    refine wpList_nil ?_
    refine c_split rfl (fun hc73 => ?_) (fun hc73 => ?_)
    · skip
      try simp only [bsl] at hc73
      exfalso
      obtain ⟨h1, h2⟩ := hc73
      obtain ⟨h3, h4, h5⟩ := hsk.2 h1
      rcases h2 with (h2 | h2) | h2
      · exact h2 h3
      · omega
      · have h6 := (hp70 (by rw [h1, h3]; simp; omega)).2 h5
        rw [h6] at h2; cases h2
    try simp only [bsl] at hc73
    refine wp_skip ?_
    refine wp_region_lit ?_
    refine s_val rfl rfl (v_move rfl hs3) ?_
    refine s_val rfl rfl (v_add rfl rfl rfl (by omega) (by omega)) ?_
    refine s_val rfl rfl (v_assign rfl rfl) ?_
    refine wpList_nil ?_
    exact ⟨gk4 - 1, _, by omega, rfl, i + 1, by omega, hs0, rfl, cx⟩
  try simp only [bsl] at hc10
  refine wp_exit ?_
  refine wp_seq ?_
  refine wp_region_lit ?_
  refine s_val rfl rfl (v_assign rfl rfl) ?_
  refine wpList_nil ?_
  refine wp_ret ?_
  refine ret_tmp Try.results127 rfl ?_
  exact ⟨cx.ext, _, rfl, rfl⟩
end Go.Proofs.Ytmkihcdcgkdilaa
end
section
namespace Go.Proofs.Ytmkihcdcgkdilaa
open Go Go.Dk Go.RowKit
set_option linter.unusedSimpArgs false
set_option linter.unusedVariables false
attribute [local irreducible] Go.wpList Go.Code.wp Go.bodyPost Go.wpStill
theorem fnd_at {s : Stp} {k : Nat} {x x' u u' : V} {kk e : Int} (h : Pst s k x x' u u') (hn : (keysOf u.fields).Nodup) (hf : Fnd u s kk e) : kk = k ∧ e = 0 := by
  rcases h with ⟨l, rfl, rfl, hi, rfl⟩ | ⟨fs, key, rfl, rfl, hi, rfl⟩
  · have hk := (List.getElem?_eq_some_iff.1 hi).1
    rcases hf.1 rfl with ⟨h1, _⟩ | ⟨_, _, _, h1, h2⟩ | ⟨_, h1, _⟩
    · exact absurd rfl h1
    · exact ⟨h1, h2⟩
    · exfalso
      apply h1
      refine ⟨Int.natCast_nonneg _, ?_⟩
      show (k : Int) < (l.length : Int)
      omega
  · obtain ⟨hk, he⟩ := List.getElem?_eq_some_iff.1 hi
    rcases hf.2 rfl with ⟨h1, _⟩ | ⟨_, t, h1, h2, h3, h4⟩ | ⟨_, _, h1⟩
    · exact absurd rfl h1
    · refine ⟨?_, h2⟩
      have : t = k := keys_at hn h3 hk (by
        have e1 : (mapV fs).fields[k].1 = key := by show fs[k].1 = key; rw [he]
        rw [e1]; exact h4)
      rw [h1, this]
    · exfalso
      exact h1 k hk (by show fs[k].1 = key; rw [he])
theorem c105e {s : Stp} {k : Nat} {x x' u u' : V} (h : Pst s k x x' u u') (hn : (keysOf u.fields).Nodup) (l : List Value) (w0 : World) (hv : Val w0 u l) (hf : Fine u) : Fc Try.prog 105 [.agg l.toArray, .agg (srow s).toArray] w0 (fun x _ => x = .tuple #[.int .i64 (k : Nat), .int .i64 0]) :=
  Fc.mono (c105 u l s w0 hv hf) fun y w' _ ⟨kk, e, e1, h1⟩ => by
    obtain ⟨rfl, rfl⟩ := fnd_at h hn h1
    exact e1
theorem c129e {s : Stp} {k : Nat} {x x' u u' : V} (h : Pst s k x x' u u') (A : Nat → Prop) (l : List Value) (w0 : World) (hA : ∀ b, A b → b < w0.heap.size) (hv : RepV A w0 u l) (hf : Fine u) : Fc Try.prog 129 [.agg l.toArray, .int .i64 (k : Nat)] w0 (fun y w' => ∃ r, y = .agg r.toArray ∧ RepV A w' x r) := by
  rcases h with ⟨ls, rfl, rfl, hi, rfl⟩ | ⟨fs, key, rfl, rfl, hi, rfl⟩
  · obtain ⟨hk, rfl⟩ := List.getElem?_eq_some_iff.1 hi
    exact c129l A (lsV ls) l k w0 hA hv hf rfl hk
  · obtain ⟨hk, he⟩ := List.getElem?_eq_some_iff.1 hi
    have := c129f A (mapV fs) l k w0 hA hv hf rfl hk
    have e2 : (mapV fs).fields[k].2 = x := by show fs[k].2 = x; rw [he]
    rwa [e2] at this
theorem c130e {s : Stp} {k : Nat} {x x' u u' : V} (h : Pst s k x x' u u') (A : Nat → Prop) (l rx : List Value) (w0 : World) (hA : ∀ b, A b → b < w0.heap.size) (hv : RepV A w0 u l) (hvx : RepV A w0 x' rx) (hf : Fine u) : Fc Try.prog 130 [.agg l.toArray, .int .i64 (k : Nat), .agg rx.toArray] w0 (fun y w' => ∃ r, y = .agg r.toArray ∧ RepV (fun b => A b ∨ Fr w0 w' b) w' u' r) := by
  rcases h with ⟨ls, rfl, rfl, hi, rfl⟩ | ⟨fs, key, rfl, rfl, hi, rfl⟩
  · exact c130 (lsV ls) x' l rx k (ls.set k x') [] A w0 hA hv hvx hf (by show (ls.set k x').length = ls.length; simp) (fun i h h' => by
      show (ls.set k x')[i] = if i = k then x' else ls[i]'h'
      rw [List.getElem_set]
      by_cases e : k = i
      · rw [if_pos e, if_pos e.symm]
      · rw [if_neg e, if_neg (fun h => e h.symm)]
        rfl) rfl (fun i h => by cases h)
  · obtain ⟨hk, he⟩ := List.getElem?_eq_some_iff.1 hi
    exact c130 (mapV fs) x' l rx k [] (fs.set k (key, x')) A w0 hA hv hvx hf rfl (fun i h => by cases h) (by show (fs.set k (key, x')).length = fs.length; simp) (fun i h h' => by
      show (fs.set k (key, x'))[i] = if i = k then ((fs[i]'h').1, x') else fs[i]'h'
      rw [List.getElem_set]
      by_cases e : k = i
      · subst e
        rw [if_pos rfl, if_pos rfl]
        show (key, x') = ((fs[k]'hk).1, x')
        rw [he]
      · rw [if_neg e, if_neg (fun h => e h.symm)]
        rfl)
set_option maxRecDepth 10000 in
theorem c108_nil (m' : V) (rm : List Value) (v v' : V) (l : List Value) (s : Value) (A : Nat → Prop) (w0 : World) (hA : ∀ b, A b → b < w0.heap.size) (hat : AtP (fun _ y => y = m') [] v v') (hp : Pth w0 s []) (hv : RepV A w0 v l) (hvm : RepV A w0 m' rm) :
    Fc Try.prog 108 [.agg l.toArray, s, .agg rm.toArray] w0 (fun x w' => ∃ r, x = .agg r.toArray ∧ RepV (fun b => A b ∨ Fr w0 w' b) w' v' r) := by
  obtain ⟨a, c, b, o, rfl, ha, hget⟩ := hp.form
  refine ret_enter Try.func108 rfl Try.ntmps108 rfl ?_
  have cx := Ctx.start w0
  refine wp_seq ?_
  refine wp_region_lit ?_
  refine s_box cx rfl rfl rfl rfl rfl ?_; intro b3 w cx hb3 hw3
  refine s_box cx rfl rfl rfl rfl rfl ?_; intro b5 w cx hb5 hw5
  refine s_alloc cx z33 rfl rfl rfl ?_; intro b6 w cx hb6 hw6
  refine wpList_nil ?_
  refine wp_seq ?_
  refine wp_seq ?_
  refine wp_region_lit ?_
  refine s_val rfl rfl (v_move rfl rfl) ?_
  refine s_val rfl rfl (v_lenSlice rfl rfl Try.underlying24) ?_
  refine s_val rfl rfl (v_cmp rfl rfl rfl rfl) ?_
  refine wpList_nil ?_
  refine c_split rfl (fun hc11 => ?_) (fun hc11 => ?_)
  · skip
    refine wp_seq ?_
    refine wp_region_lit ?_
    refine s_val rfl rfl (v_load rfl rfl Try.underlying33 rfl sz33 (cx.row 1 rfl) hvm.len) ?_
    refine s_storeAllG cx 0 rfl rfl rfl rfl rfl rfl (by rw [hvm.len]; exact sz33) (by rw [hvm.len]; rfl) hvm.one ?_; intro w cx hg2
    refine wpList_nil ?_
    refine wp_ret ?_
    obtain rfl := at_base hat
    exact ret_cell Try.results108 rfl (cx.at 0 rfl) Try.underlying33 rfl (by rw [hvm.len]; exact sz33) ⟨cx.ext, _, rfl, RepV.mono (fun b h => .inl h) (fun b hb => cx.ext.block b (hA b hb)) _ _ hvm⟩
  exfalso
  simp at hc11
set_option maxRecDepth 10000 in
set_option maxHeartbeats 6400000 in
theorem c108 (m' : V) (rm : List Value) : ∀ (p : List Stp) (v v' : V) (l : List Value) (s : Value) (e : Nat) (A : Nat → Prop) (w0 : World), (∀ b, A b → b < w0.heap.size) → AtP (fun _ y => y = m') p v v' → Gok e v → Fine v → Pth w0 s p → p.length ≤ 1000 → RepV A w0 v l → RepV A w0 m' rm →
    Fc Try.prog 108 [.agg l.toArray, s, .agg rm.toArray] w0 (fun x w' => ∃ r, x = .agg r.toArray ∧ RepV (fun b => A b ∨ Fr w0 w' b) w' v' r) := by
  intro p
  induction p with
  | nil =>
    intro v v' l s e A w0 hA hat hg hf hp hpl hv hvm
    exact c108_nil m' rm v v' l s A w0 hA hat hp hv hvm
  | cons st q ih =>
  intro v v' l s e A w0 hA hat hg hf hp hpl hv hvm
  have hO1 := hp.form
  obtain ⟨a, c, b, o, rfl, ha, hget⟩ := hO1
  refine ret_enter Try.func108 rfl Try.ntmps108 rfl ?_
  have cx := Ctx.start w0
  refine wp_seq ?_
  refine wp_region_lit ?_
  refine s_box cx rfl rfl rfl rfl rfl ?_; intro b3 w cx hb3 hw3
  refine s_box cx rfl rfl rfl rfl rfl ?_; intro b5 w cx hb5 hw5
  refine s_alloc cx z33 rfl rfl rfl ?_; intro b6 w cx hb6 hw6
  refine wpList_nil ?_
  refine wp_seq ?_
  refine wp_seq ?_
  refine wp_region_lit ?_
  refine s_val rfl rfl (v_move rfl rfl) ?_
  refine s_val rfl rfl (v_lenSlice rfl rfl Try.underlying24) ?_
  refine s_val rfl rfl (v_cmp rfl rfl rfl rfl) ?_
  refine wpList_nil ?_
  refine c_split rfl (fun hc11 => ?_) (fun hc11 => ?_)
  · skip
    exfalso
    simp at hc11
    omega
  have hO2 := at_step hat
  obtain ⟨k, x, x', hatq, hst⟩ := hO2
  have hO3 := hst.gok hg
  obtain ⟨e', hgx⟩ := hO3
  have hfx := hst.fine hf
  have hO4 := ha (by simp)
  obtain rfl := hO4
  have hrs := hget 0 st rfl
  have hv0 := FX.init hA hv
  have hm0 := FX.init hA hvm
  have hh := Fz.refl w0 [] []
  refine wp_skip ?_
  refine wp_seq ?_
  refine w_quiet cx mixed (by kernel_rfl) ?_
  refine q_val rfl rfl (fun w cx hwQ => v_load rfl rfl Try.underlying33 rfl sz33 (cx.row 2 rfl) hv.len) ?_
  refine q_val rfl rfl (fun w cx hwQ => v_move rfl rfl) ?_
  refine q_val rfl rfl (fun w cx hwQ => v_ia Try.underlying24 sz112 rfl rfl rfl (by decide) (by simp only [List.length_cons]; omega)) ?_
  refine q_val rfl rfl (fun w cx hwQ => v_load rfl rfl Try.underlying112 rfl sz112 (hrs.up cx.ext) rfl) ?_
  refine q_call rfl rfl (runs_fn Try.func105 rfl rfl rfl rfl) (fun w cx hwQ => c105e hst (gok_keys hg) l w (RepV.mono (fun b hb => Nat.lt_of_lt_of_le (hA b hb) cx.ext.size) (fun b hb => cx.ext.block b (hA b hb)) _ _ hv) hf) ?_
  refine q_val rfl rfl (fun w cx hwQ => v_move rfl rfl) ?_
  refine q_val rfl rfl (fun w cx hwQ => v_extract rfl rfl rfl) ?_
  refine q_val rfl rfl (fun w cx hwQ => v_extract rfl rfl rfl) ?_
  refine q_val rfl rfl (fun w cx hwQ => v_assign rfl rfl) ?_
  refine q_val rfl rfl (fun w cx hwQ => v_assign rfl rfl) ?_
  refine q_nil ?_; rintro w ⟨cx, hwQ3⟩
  refine wp_seq ?_
  refine w_ord cx (cx.pick2 1 2 rfl rfl rfl) mixed [(0, 21), (1, 22), (2, 23), (3, 24), (5, 26), (6, 27), (7, 28)] #[true, true, true, true, false, true, true, true, false, false, false] (by kernel_rfl) (by kernel_rfl) (by kernel_rfl) (by kernel_rfl) ?_
  have hzs : Fz w0 [] [] w [(b6, .cells ([.int .i64 0, .bool false, .bool false, .string ByteArray.empty, .int .i64 0, .int .i64 0, .int .i64 0, .int .i64 0, .int .i64 0, .string ByteArray.empty, .slice none 0 0, .slice none 0 0, .slice none 0 0] : List Value).toArray 33), (b5, .cells rm.toArray 33), (b3, .cells l.toArray 33)] [] := ((Fz.new hb3 hw3).trans (Fz.new hb5 hw5)).trans ((Fz.new hb6 hw6).trans (Fz.below hwQ3))
  replace hv0 := hzs.repA hv0
  replace hm0 := hzs.repA hm0
  refine pu_one rfl (wnt_none rfl) (fun w cx => v_load rfl rfl Try.underlying33 rfl sz33 (cx.row 1 rfl) hv.len) ?_
  refine pu_one rfl (wnt_none rfl) (fun w cx => v_move rfl rfl) ?_
  refine pu_one rfl (wnt_none rfl) (fun w cx => v_load rfl rfl Try.underlying33 rfl sz33 (cx.row 1 rfl) hv.len) ?_
  refine pu_one rfl (wnt_none rfl) (fun w cx => v_move rfl rfl) ?_
  refine pu_one rfl (wnt_none rfl) (fun w cx => v_move rfl rfl) ?_
  refine pu_one rfl (wnt_none rfl) (fun w cx => v_slLo el24 es24 rfl rfl rfl (by decide) (by simp only [List.length_cons]; omega)) ?_
  refine pu_one rfl (wnt_none rfl) (fun w cx => v_load rfl rfl Try.underlying33 rfl sz33 (cx.row 0 rfl) hvm.len) ?_
  refine pu_nil ?_; intro w cx hwD4
  replace hv0 := (Fz.belC cx hwD4).repA hv0
  replace hm0 := (Fz.belC cx hwD4).repA hm0
  refine x_one (i := 4) (by kernel_rfl) rfl ?_
  have cx25 := cx
  refine s_fn cx (c129e hst _ l _ FX.lt hv0 hf) Try.func129 rfl rfl rfl rfl rfl rfl ?_; intro q25 w cx hw25 hp25
  obtain ⟨r25, rfl, hr25⟩ := hp25
  replace hr25 := RepV.mono (Fz.belC cx hw25).upA (fun _ _ => rfl) _ _ hr25
  replace hv0 := (Fz.belC cx hw25).repA hv0
  replace hm0 := (Fz.belC cx hw25).repA hm0
  refine x_next ⟨.inl (cx.pick2 1 2 rfl rfl rfl), ?_⟩
  refine x_one (i := 8) (by kernel_rfl) rfl ?_
  have cx29 := cx
  refine s_fn cx (ih x x' r25 _ e' _ _ FX.lt hatq hgx hfx ((hp.up cx.ext).tail) (by simp only [List.length_cons] at hpl; omega) hr25 hm0) Try.func108 rfl rfl rfl rfl rfl rfl ?_; intro q29 w cx hw29 hp29
  obtain ⟨r29, rfl, hr29⟩ := hp29
  replace hr29 := FX.res cx29 hw29 cx29.ext.size hr29
  replace hv0 := (Fz.belC cx hw29).repA hv0
  refine x_next ⟨.inl (cx.pick2 1 2 rfl rfl rfl), ?_⟩
  refine x_one (i := 9) (by kernel_rfl) rfl ?_
  have cx30 := cx
  refine s_fn cx (c130e hst _ l r29 _ FX.lt hv0 hr29 hf) Try.func130 rfl rfl rfl rfl rfl rfl ?_; intro q30 w cx hw30 hp30
  obtain ⟨r30, rfl, hr30⟩ := hp30
  replace hr30 := FX.res cx30 hw30 cx30.ext.size hr30
  refine x_next ⟨.inr (by kernel_rfl), ?_⟩
  refine x_one (i := 10) (by kernel_rfl) rfl ?_
  have cx4 := cx
  refine s_storeAllG cx 0 rfl rfl rfl rfl rfl rfl (by rw [hr30.len]; exact sz33) (by rw [hr30.len]; rfl) hr30.one ?_; intro w cx hg4
  replace hr30 := (Fz.set (L := [(b6, .cells ([.int .i64 0, .bool false, .bool false, .string ByteArray.empty, .int .i64 0, .int .i64 0, .int .i64 0, .int .i64 0, .int .i64 0, .string ByteArray.empty, .slice none 0 0, .slice none 0 0, .slice none 0 0] : List Value).toArray 33), (b5, .cells rm.toArray 33), (b3, .cells l.toArray 33)]) (R := []) (i := 0) (o' := .cells r30.toArray 33) rfl hg4).repA hr30
  replace cx := cx.set0
  refine x_next ⟨.inr (by kernel_rfl), ?_⟩
  refine x_done (by kernel_rfl) ?_
  refine wp_ret ?_
  exact ret_cell Try.results108 rfl (cx.at 0 rfl) Try.underlying33 rfl (by rw [hr30.len]; exact sz33) ⟨cx.ext, _, rfl, FX.out hr30⟩
end Go.Proofs.Ytmkihcdcgkdilaa
end
section
namespace Go.Proofs.Ytmkihcdcgkdilaa
open Go Go.Dk Go.RowKit
set_option linter.unusedSimpArgs false
set_option linter.unusedVariables false
attribute [local irreducible] Go.wpList Go.Code.wp Go.bodyPost Go.wpStill
theorem repE {w0 w w' : World} {L L' : List (Nat × Obj)} {R R' : List Row} {A : Nat → Prop} {v : V} {r : List Value} (cx : Cxr w0 w L R) (cx' : Cxr w0 w' L' R') (hA : ∀ b, A b → b < w0.heap.size) (h : RepV A w v r) : RepV A w' v r :=
  RepV.mono (fun _ h => h) (fun b hb => (cx'.ext.block b (hA b hb)).trans (cx.ext.block b (hA b hb)).symm) _ _ h
set_option maxRecDepth 10000 in
theorem c104 (m : V) (p : List Stp) (v v' : V) (l : List Value) (s : Value) (e : Nat) (A : Nat → Prop) (w0 : World) (hA : ∀ b, A b → b < w0.heap.size) (hat : AtP (fun y _ => y = m) p v v') (hg : Gok e v) (hf : Fine v) (hp : Pth w0 s p) (hk : POk p) (hv : RepV A w0 v l) :
    Fc Try.prog 104 [.agg l.toArray, s] w0 (fun x w' => ∃ r, x = .tuple #[.agg r.toArray, .int .i64 0] ∧ RepV A w' m r) := by
  have hO1 := hp.form
  obtain ⟨a, c, b, o, rfl, ha, hget⟩ := hO1
  refine ret_enter Try.func104 rfl Try.ntmps104 rfl ?_
  have cx := Ctx.start w0
  refine wp_seq ?_
  refine wp_region_lit ?_
  refine s_box cx rfl rfl rfl rfl rfl ?_; intro b2 w cx hb2 hw2
  refine s_alloc cx z33 rfl rfl rfl ?_; intro b4 w cx hb4 hw4
  refine s_val rfl rfl (v_assign rfl rfl) ?_
  refine wpList_nil ?_
  refine wp_seq ?_
  refine wp_seq ?_
  refine wp_region_lit ?_
  refine s_val rfl rfl (v_move rfl rfl) ?_
  refine s_fnB cx (c127 p _ _ (hp.up cx.ext) hk) Try.func127 rfl rfl rfl rfl rfl rfl ?_; intro q10 w cx hw10 hp10
  refine s_val rfl rfl (v_not rfl rfl) ?_
  refine wpList_nil ?_
  refine c_split rfl (fun hc11 => ?_) (fun hc11 => ?_)
  · skip
    exfalso
    rw [hp10] at hc11
    cases hc11
  refine wp_skip ?_
  refine wp_seq ?_
  refine wp_seq ?_
  refine wp_region_lit ?_
  refine s_val rfl rfl (v_assign rfl rfl) ?_
  refine wpList_nil ?_
  refine wp_block ?_
  refine w_loop (fun k f w1 => ∃ (i e1 : Nat) (u u' : V) (r : List Value), k + i = p.length ∧ f 1 = .slice a p.length c ∧ f 2 = .pointer (some ⟨b2, 0, none⟩) ∧ f 4 = .pointer (some ⟨b4, 0, none⟩) ∧ f 6 = .int .i64 (i : Nat) ∧ Cxr w0 w1 [(b4, .cells ([.int .i64 0, .bool false, .bool false, .string ByteArray.empty, .int .i64 0, .int .i64 0, .int .i64 0, .int .i64 0, .int .i64 0, .string ByteArray.empty, .slice none 0 0, .slice none 0 0, .slice none 0 0] : List Value).toArray 33), (b2, .cells r.toArray 33)] [] ∧ AtP (fun y _ => y = m) (p.drop i) u u' ∧ Gok e1 u ∧ Fine u ∧ RepV A w1 u r) (p.length) ?_ ?_
  · skip
    exact ⟨0, e, v, v', l, by omega, rfl, rfl, rfl, rfl, cx, hat, hg, hf, repE (Ctx.start w0) cx hA hv⟩
  intro gk4 f w hJ
  obtain ⟨i, e1, u, u', r, hki, hs1, hs2, hs4, hs6, cx, hat1, hg1, hf1, hr⟩ := hJ
  have cxh := cx
  have hpl := hk.1
  refine wp_seq ?_
  refine wp_seq ?_
  refine wp_region_lit ?_
  refine s_val rfl rfl (v_move rfl hs6) ?_
  refine s_val rfl rfl (v_move rfl hs1) ?_
  refine s_val rfl rfl (v_lenSlice rfl rfl Try.underlying24) ?_
  refine s_val rfl rfl (v_cmp rfl rfl rfl rfl) ?_
  refine wpList_nil ?_
  refine c_split rfl (fun hc16 => ?_) (fun hc16 => ?_)
  · skip
    try simp only [bsl] at hc16
    rw [List.drop_eq_getElem_cons (by omega)] at hat1
    have hO2 := at_step hat1
    obtain ⟨k, x, x', hatq, hst⟩ := hO2
    have hO3 := hst.gok hg1
    obtain ⟨e', hgx⟩ := hO3
    have hfx := hst.fine hf1
    have hO4 := ha (by omega)
    obtain rfl := hO4
    have hrs := hget i p[i] (List.getElem?_eq_getElem (by omega))
    refine wp_skip ?_
    refine wp_seq ?_
    refine wp_block ?_
    refine wp_seq ?_
    refine w_quiet cx mixed (by kernel_rfl) ?_
    refine q_val rfl rfl (fun w cx hwQ => v_load rfl hs2 Try.underlying33 rfl sz33 (cx.row 1 rfl) hr.len) ?_
    refine q_val rfl rfl (fun w cx hwQ => v_move rfl hs1) ?_
    refine q_val rfl rfl (fun w cx hwQ => v_move rfl hs6) ?_
    refine q_val rfl rfl (fun w cx hwQ => v_ia Try.underlying24 sz112 rfl rfl rfl (by omega) (by omega)) ?_
    refine q_val rfl rfl (fun w cx hwQ => v_load rfl rfl Try.underlying112 rfl sz112 (hrs.up cx.ext) rfl) ?_
    refine q_call rfl rfl (runs_fn Try.func105 rfl rfl rfl rfl) (fun w cx hwQ => c105e hst (gok_keys hg1) r w (RepV.mono (fun b hb => Nat.lt_of_lt_of_le (hA b hb) cx.ext.size) (fun _ _ => rfl) _ _ (repE cxh cx hA hr)) hf1) ?_
    refine q_val rfl rfl (fun w cx hwQ => v_move rfl rfl) ?_
    refine q_val rfl rfl (fun w cx hwQ => v_extract rfl rfl rfl) ?_
    refine q_val rfl rfl (fun w cx hwQ => v_extract rfl rfl rfl) ?_
    refine q_val rfl rfl (fun w cx hwQ => v_assign rfl rfl) ?_
    refine q_val rfl rfl (fun w cx hwQ => v_assign rfl rfl) ?_
    refine q_nil ?_; rintro w ⟨cx, hwQ6⟩
    refine wp_seq ?_
    refine wp_seq ?_
    refine wp_region_lit ?_
    refine s_val rfl rfl (v_move rfl rfl) ?_
    refine s_val rfl rfl (v_cmp rfl rfl rfl rfl) ?_
    refine wpList_nil ?_
    refine c_split rfl (fun hc29 => ?_) (fun hc29 => ?_)
    · skip
      exfalso
      simp at hc29
    refine wp_skip ?_
    refine wp_region_lit ?_
    refine s_val rfl rfl (v_load rfl hs2 Try.underlying33 rfl sz33 (cx.row 1 rfl) hr.len) ?_
    refine s_val rfl rfl (v_move rfl rfl) ?_
    refine s_fn cx (c129e hst A r _ (fun b hb => Nat.lt_of_lt_of_le (hA b hb) cx.ext.size) (repE cxh cx hA hr) hf1) Try.func129 rfl rfl rfl rfl rfl rfl ?_; intro q34 w cx hw34 hp34
    obtain ⟨r34, rfl, hr34⟩ := hp34
    have cx34 := cx
    refine s_storeAllG cx 1 rfl rfl rfl hs2 rfl rfl (by rw [hr34.len]; exact sz33) (by rw [hr34.len]; exact hr.len) hr34.one ?_; intro w cx hg9
    refine wpList_nil ?_
    refine wp_region_lit ?_
    refine s_val rfl rfl (v_move rfl hs6) ?_
    refine s_val rfl rfl (v_add rfl rfl rfl (by omega) (by omega)) ?_
    refine s_val rfl rfl (v_assign rfl rfl) ?_
    refine wpList_nil ?_
    exact ⟨gk4 - 1, _, by omega, rfl, i + 1, e', x, x', r34, by omega, hs1, hs2, hs4, rfl, cx, hatq, hgx, hfx, repE cx34 cx hA hr34⟩
  try simp only [bsl] at hc16
  refine wp_exit ?_
  refine wp_seq ?_
  refine wp_region_lit ?_
  refine s_val rfl rfl (v_load rfl hs2 Try.underlying33 rfl sz33 (cx.row 1 rfl) hr.len) ?_
  refine s_storeAllG cx 0 rfl rfl rfl hs4 rfl rfl (by rw [hr.len]; exact sz33) (by rw [hr.len]; rfl) hr.one ?_; intro w cx hg10
  refine s_val rfl rfl (v_assign rfl rfl) ?_
  refine wpList_nil ?_
  refine wp_ret ?_
  have hO5 : i = p.length := by omega
  obtain rfl := hO5
  rw [List.drop_length] at hat1
  have hO6 := at_base hat1
  obtain rfl := hO6
  exact ret_cell2 Try.results104 hs4 rfl (cx.at 0 rfl) Try.underlying33 rfl (by rw [hr.len]; exact sz33) ⟨cx.ext, _, rfl, repE cxh cx hA hr⟩
end Go.Proofs.Ytmkihcdcgkdilaa
end
section
namespace Go.Proofs.Ytmkihcdcgkdilaa
open Go Go.Dk Go.RowKit
set_option linter.unusedSimpArgs false
set_option linter.unusedVariables false
attribute [local irreducible] Go.wpList Go.Code.wp Go.bodyPost Go.wpStill
structure CGood (c : Ch) : Prop where
  op1 : 1 ≤ c.op
  op3 : c.op ≤ 3
  pth : POk c.path
  pos0 : 0 ≤ c.pos
  pos1 : c.pos ≤ 65536
  ne : ¬ c.op = 1 → c.path ≠ []
  pk : 0 < c.pos → ¬ c.op = 1 ∧ (match c.path.getLast? with | some s => !s.byIndex | none => false) = true
  zo : c.op = 2 → c.old = nulV
  zn : c.op = 3 → c.new = nulV
  go : ¬ c.op = 2 → Gok 48 c.old ∧ tsz 48 c.old ≤ 65536
  gn : ¬ c.op = 3 → Gok 48 c.new ∧ tsz 48 c.new ≤ 65536
  fo : Fine c.old
  fn : Fine c.new
set_option maxRecDepth 10000 in
theorem c103 (c : Ch) (r : List Value) (w0 : World) (hc0 : Chg w0 c r) (hg : CGood c) : Fc Try.prog 103 [.agg r.toArray] w0 (IsI fun m => m = 0) := by
  have hc1 := hc0
  have hO1 := hc1.form
  obtain ⟨ps, bo, lo, fo, bn, ln, fn, rfl, hpt, hvo, hvn, _⟩ := hO1
  have hO2 := hpt.form
  obtain ⟨pa, pc, pb, pof, rfl, _, _⟩ := hO2
  refine ret_enter Try.func103 rfl Try.ntmps103 rfl ?_
  have cx := Ctx.start w0
  refine wp_seq ?_
  refine wp_region_lit ?_
  refine s_box cx rfl rfl rfl rfl rfl ?_; intro b1 w cx hb1 hw1
  refine s_val rfl rfl (v_assign rfl rfl) ?_
  refine wpList_nil ?_
  refine wp_seq ?_
  refine wp_seq ?_
  refine wp_region_lit ?_
  refine s_val rfl rfl (v_fa fa35_0 rfl rfl) ?_
  refine s_val rfl rfl (v_load1 rfl rfl Try.underlying3 rfl (cx.cell 0 rfl rfl)) ?_
  refine s_val rfl rfl (v_cmp rfl rfl rfl rfl) ?_
  refine s_val rfl rfl (v_move rfl rfl) ?_
  refine s_gval rfl rfl rfl wF (fun hc => v_fa fa35_0 rfl (by first | exact gve hc rfl | exact gve (and_l hc) rfl | exact gve (and_l (and_l hc)) rfl | rfl)) ?_
  refine s_gval rfl rfl rfl wF (fun hc => v_load1 rfl (by first | exact gve hc rfl | exact gve (and_l hc) rfl | exact gve (and_l (and_l hc)) rfl | rfl) Try.underlying3 rfl (cx.cell 0 rfl rfl)) ?_
  refine s_gval rfl rfl rfl wF (fun hc => v_cmp rfl (by first | exact gve hc rfl | exact gve (and_l hc) rfl | exact gve (and_l (and_l hc)) rfl | rfl) rfl rfl) ?_
  refine s_val rfl rfl (v_or rfl rfl rfl rfl) ?_
  refine s_val rfl rfl (v_move rfl rfl) ?_
  refine s_gval rfl rfl rfl wF (fun hc => v_fa fa35_1 rfl (by first | exact gve hc rfl | exact gve (and_l hc) rfl | exact gve (and_l (and_l hc)) rfl | rfl)) ?_
  refine s_gval rfl rfl rfl wF (fun hc => v_load1 rfl (by first | exact gve hc rfl | exact gve (and_l hc) rfl | exact gve (and_l (and_l hc)) rfl | rfl) Try.underlying24 rfl (cx.cell 0 rfl rfl)) ?_
  refine s_gfnB cx rfl rfl rfl wF (fun hc => c127 c.path _ _ (hpt.up cx.ext) hg.pth) Try.func127 rfl rfl rfl (fun hc => (cons_eq (by first | exact gve hc rfl | exact gve (and_l hc) rfl | exact gve (and_l (and_l hc)) rfl | rfl) rfl)) ?_; intro q16 w cx hw16 hp16
  refine s_gval rfl rfl rfl wF (fun hc => v_not rfl (by first | exact gve hc rfl | exact gve (and_l hc) rfl | exact gve (and_l (and_l hc)) rfl | rfl)) ?_
  refine s_val rfl rfl (v_or rfl rfl rfl rfl) ?_
  refine s_val rfl rfl (v_move rfl rfl) ?_
  refine s_gval rfl rfl rfl wF (fun hc => v_load rfl (by first | exact gve hc rfl | exact gve (and_l hc) rfl | exact gve (and_l (and_l hc)) rfl | rfl) Try.underlying35 rfl sz35 (cx.row 0 rfl) (by first | rfl | exact hv.len)) ?_
  refine s_gfnB cx rfl rfl rfl wF (fun hc => c72 c _ _ (hc0.up cx.ext)) Try.func72 rfl rfl rfl (fun hc => (cons_eq (by first | exact gve hc rfl | exact gve (and_l hc) rfl | exact gve (and_l (and_l hc)) rfl | rfl) rfl)) ?_; intro q21 w cx hw21 hp21
  refine s_gval rfl rfl rfl wF (fun hc => v_move rfl (by first | exact gve hc rfl | exact gve (and_l hc) rfl | exact gve (and_l (and_l hc)) rfl | rfl)) ?_
  refine s_gval rfl rfl rfl wT (fun hc => v_fa fa35_1 rfl (by first | exact gve hc rfl | exact gve (and_l hc) rfl | exact gve (and_l (and_l hc)) rfl | rfl)) ?_
  refine s_gval rfl rfl rfl wT (fun hc => v_load1 rfl (by first | exact gve hc rfl | exact gve (and_l hc) rfl | exact gve (and_l (and_l hc)) rfl | rfl) Try.underlying24 rfl (cx.cell 0 rfl rfl)) ?_
  refine s_gval rfl rfl rfl wT (fun hc => v_lenSlice rfl (by first | exact gve hc rfl | exact gve (and_l hc) rfl | exact gve (and_l (and_l hc)) rfl | rfl) Try.underlying24) ?_
  refine s_gval rfl rfl rfl wT (fun hc => v_cmp rfl (by first | exact gve hc rfl | exact gve (and_l hc) rfl | exact gve (and_l (and_l hc)) rfl | rfl) rfl rfl) ?_
  refine s_gval rfl rfl rfl wF (fun hc => v_and_g hc rfl rfl rfl rfl) ?_
  refine s_val rfl rfl (v_or rfl rfl rfl rfl) ?_
  refine wpList_nil ?_
  refine c_split rfl (fun hc28 => ?_) (fun hc28 => ?_)
  · skip
    exfalso
    have g1 := hg.op1
    have g2 := hg.op3
    have e1 : decide (c.op < 1) = false := decide_eq_false (by omega)
    have e2 : decide (4 < c.op) = false := decide_eq_false (by omega)
    have e3 := hp16 (by rw [e1, e2]; rfl)
    rw [e1, e2, e3] at hc28
    simp only [Bool.false_or, Bool.not_true, Bool.and_eq_true, beq_iff_eq] at hc28
    obtain ⟨h1, h2⟩ := hc28
    have e4 := hp21 (by rw [e1, e2, e3]; rfl)
    rw [h1] at e4
    exact hg.ne (fun e => by rw [e] at e4; cases e4) (List.length_eq_zero_iff.1 (by omega))
  try simp only [bsl] at hc28
  refine wp_skip ?_
  refine wp_seq ?_
  refine wp_seq ?_
  refine wp_region_lit ?_
  refine s_val rfl rfl (v_fa fa35_2 rfl rfl) ?_
  refine s_val rfl rfl (v_load1 rfl rfl Try.underlying3 rfl (cx.cell 0 rfl rfl)) ?_
  refine s_val rfl rfl (v_cmp rfl rfl rfl rfl) ?_
  refine s_val rfl rfl (v_move rfl rfl) ?_
  refine s_gval rfl rfl rfl wF (fun hc => v_fa fa35_2 rfl (by first | exact gve hc rfl | exact gve (and_l hc) rfl | exact gve (and_l (and_l hc)) rfl | rfl)) ?_
  refine s_gval rfl rfl rfl wF (fun hc => v_load1 rfl (by first | exact gve hc rfl | exact gve (and_l hc) rfl | exact gve (and_l (and_l hc)) rfl | rfl) Try.underlying3 rfl (cx.cell 0 rfl rfl)) ?_
  refine s_gval rfl rfl rfl wF (fun hc => v_cmp rfl (by first | exact gve hc rfl | exact gve (and_l hc) rfl | exact gve (and_l (and_l hc)) rfl | rfl) rfl rfl) ?_
  refine s_val rfl rfl (v_or rfl rfl rfl rfl) ?_
  refine s_val rfl rfl (v_move rfl rfl) ?_
  refine s_gval rfl rfl rfl wF (fun hc => v_fa fa35_2 rfl (by first | exact gve hc rfl | exact gve (and_l hc) rfl | exact gve (and_l (and_l hc)) rfl | rfl)) ?_
  refine s_gval rfl rfl rfl wF (fun hc => v_load1 rfl (by first | exact gve hc rfl | exact gve (and_l hc) rfl | exact gve (and_l (and_l hc)) rfl | rfl) Try.underlying3 rfl (cx.cell 0 rfl rfl)) ?_
  refine s_gval rfl rfl rfl wF (fun hc => v_cmp rfl (by first | exact gve hc rfl | exact gve (and_l hc) rfl | exact gve (and_l (and_l hc)) rfl | rfl) rfl rfl) ?_
  refine s_gval rfl rfl rfl wF (fun hc => v_move rfl (by first | exact gve hc rfl | exact gve (and_l hc) rfl | exact gve (and_l (and_l hc)) rfl | rfl)) ?_
  refine s_gval rfl rfl rfl wT (fun hc => v_load rfl (by first | exact gve hc rfl | exact gve (and_l hc) rfl | exact gve (and_l (and_l hc)) rfl | rfl) Try.underlying35 rfl sz35 (cx.row 0 rfl) (by first | rfl | exact hv.len)) ?_
  refine s_gfnB cx rfl rfl rfl wT (fun hc => c72 c _ _ (hc0.up cx.ext)) Try.func72 rfl rfl rfl (fun hc => (cons_eq (by first | exact gve hc rfl | exact gve (and_l hc) rfl | exact gve (and_l (and_l hc)) rfl | rfl) rfl)) ?_; intro q43 w cx hw43 hp43
  refine s_gval rfl rfl rfl wT (fun hc => v_move rfl (by first | exact gve hc rfl | exact gve (and_l hc) rfl | exact gve (and_l (and_l hc)) rfl | rfl)) ?_
  refine s_gval rfl rfl rfl wT (fun hc => v_fa fa35_1 rfl (by first | exact gve hc rfl | exact gve (and_l hc) rfl | exact gve (and_l (and_l hc)) rfl | rfl)) ?_
  refine s_gval rfl rfl rfl wT (fun hc => v_load1 rfl (by first | exact gve hc rfl | exact gve (and_l hc) rfl | exact gve (and_l (and_l hc)) rfl | rfl) Try.underlying24 rfl (cx.cell 0 rfl rfl)) ?_
  refine s_gfnB cx rfl rfl rfl wT (fun hc => c109 c.path _ _ (hpt.up cx.ext) (by have := hg.pth.1; omega)) Try.func109 rfl rfl rfl (fun hc => (cons_eq (by first | exact gve hc rfl | exact gve (and_l hc) rfl | exact gve (and_l (and_l hc)) rfl | rfl) rfl)) ?_; intro q47 w cx hw47 hp47
  refine s_gval rfl rfl rfl wT (fun hc => v_and_g hc rfl rfl rfl rfl) ?_
  refine s_gval rfl rfl rfl wT (fun hc => v_not rfl (by first | exact gve hc rfl | exact gve (and_l hc) rfl | exact gve (and_l (and_l hc)) rfl | rfl)) ?_
  refine s_gval rfl rfl rfl wF (fun hc => v_and_g hc rfl rfl rfl rfl) ?_
  refine s_val rfl rfl (v_or rfl rfl rfl rfl) ?_
  refine wpList_nil ?_
  refine c_split rfl (fun hc51 => ?_) (fun hc51 => ?_)
  · skip
    exfalso
    have g1 := hg.op1
    have g2 := hg.op3
    have g3 := hg.pos0
    have g4 := hg.pos1
    have e1 : decide (c.pos < 0) = false := decide_eq_false (by omega)
    have e2 : decide (65536 < c.pos) = false := decide_eq_false (by omega)
    by_cases h : 0 < c.pos
    · have e3 : decide (0 < c.pos) = true := decide_eq_true h
      have hO3 := hg.pk h
      obtain ⟨h1, h2⟩ := hO3
      have e4 := hp43 (by rw [e1, e2, e3]; rfl)
      have e5 : q43 = true := by
        rw [e4, Bool.or_eq_true, beq_iff_eq, beq_iff_eq]
        omega
      have e6 : q47 = true := (hp47 (by rw [e1, e2, e3, e5]; rfl)).trans h2
      rw [e1, e2, e3, e5, e6] at hc51
      cases hc51
    · have e3 : decide (0 < c.pos) = false := decide_eq_false h
      rw [e1, e2, e3] at hc51
      cases hc51
  try simp only [bsl] at hc51
  refine wp_skip ?_
  refine wp_seq ?_
  refine wp_region_lit ?_
  refine s_val rfl rfl (v_fa fa35_0 rfl rfl) ?_
  refine s_val rfl rfl (v_load1 rfl rfl Try.underlying3 rfl (cx.cell 0 rfl rfl)) ?_
  refine s_val rfl rfl (v_cmp rfl rfl rfl rfl) ?_
  refine s_val rfl rfl (v_move rfl rfl) ?_
  refine s_gval rfl rfl rfl wF (fun hc => v_fa fa35_0 rfl (by first | exact gve hc rfl | exact gve (and_l hc) rfl | exact gve (and_l (and_l hc)) rfl | rfl)) ?_
  refine s_gval rfl rfl rfl wF (fun hc => v_load1 rfl (by first | exact gve hc rfl | exact gve (and_l hc) rfl | exact gve (and_l (and_l hc)) rfl | rfl) Try.underlying3 rfl (cx.cell 0 rfl rfl)) ?_
  refine s_gval rfl rfl rfl wF (fun hc => v_cmp rfl (by first | exact gve hc rfl | exact gve (and_l hc) rfl | exact gve (and_l (and_l hc)) rfl | rfl) rfl rfl) ?_
  refine s_val rfl rfl (v_or rfl rfl rfl rfl) ?_
  refine s_val rfl rfl (v_assign rfl rfl) ?_
  refine wpList_nil ?_
  refine wp_seq ?_
  refine wp_seq ?_
  refine wp_region_lit ?_
  refine s_val rfl rfl (v_fa fa35_0 rfl rfl) ?_
  refine s_val rfl rfl (v_load1 rfl rfl Try.underlying3 rfl (cx.cell 0 rfl rfl)) ?_
  refine s_val rfl rfl (v_cmp rfl rfl rfl rfl) ?_
  refine s_val rfl rfl (v_move rfl rfl) ?_
  refine s_gval rfl rfl rfl wT (fun hc => v_fa fa35_3 rfl (by first | exact gve hc rfl | exact gve (and_l hc) rfl | exact gve (and_l (and_l hc)) rfl | rfl)) ?_
  refine s_gval rfl rfl rfl wT (fun hc => v_load rfl (by first | exact gve hc rfl | exact gve (and_l hc) rfl | exact gve (and_l (and_l hc)) rfl | rfl) Try.underlying33 rfl sz33 ((cx.row 0 rfl).rv 3 rfl) rfl) ?_
  refine s_gfnB cx rfl rfl rfl wT (fun hc => c128 (vrow c.old.sc bo lo fo) _ (by rw [← hg.zo (by simpa using hc)]; exact hvo.up cx.ext)) Try.func128 rfl rfl rfl (fun hc => cons_eq (gve hc rfl) rfl) ?_; intro q66 w cx hw66 hp66
  refine s_gval rfl rfl rfl wT (fun hc => v_not rfl (by first | exact gve hc rfl | exact gve (and_l hc) rfl | exact gve (and_l (and_l hc)) rfl | rfl)) ?_
  refine s_val rfl rfl (v_and rfl rfl rfl rfl) ?_
  refine s_val rfl rfl (v_move rfl rfl) ?_
  refine s_gval rfl rfl rfl wF (fun hc => v_move rfl (by first | exact gve hc rfl | exact gve (and_l hc) rfl | exact gve (and_l (and_l hc)) rfl | rfl)) ?_
  refine s_gval rfl rfl rfl wF (fun hc => v_not rfl (by first | exact gve hc rfl | exact gve (and_l hc) rfl | exact gve (and_l (and_l hc)) rfl | rfl)) ?_
  refine s_gval rfl rfl rfl wF (fun hc => v_move rfl (by first | exact gve hc rfl | exact gve (and_l hc) rfl | exact gve (and_l (and_l hc)) rfl | rfl)) ?_
  refine s_gval rfl rfl rfl wT (fun hc => v_fa fa35_4 rfl (by first | exact gve hc rfl | exact gve (and_l hc) rfl | exact gve (and_l (and_l hc)) rfl | rfl)) ?_
  refine s_gval rfl rfl rfl wT (fun hc => v_load rfl (by first | exact gve hc rfl | exact gve (and_l hc) rfl | exact gve (and_l (and_l hc)) rfl | rfl) Try.underlying33 rfl sz33 ((cx.row 0 rfl).rv 16 rfl) rfl) ?_
  refine s_gfnB cx rfl rfl rfl wT (fun hc => c128 (vrow c.new.sc bn ln fn) _ (by rw [← hg.zn (by have g1 := hg.op1; have g2 := hg.op3; simp only [Bool.and_eq_true, Bool.not_eq_true', Bool.or_eq_false_iff, beq_eq_false_iff_ne] at hc; omega)]; exact hvn.up cx.ext)) Try.func128 rfl rfl rfl (fun hc => cons_eq (gve hc rfl) rfl) ?_; intro q75 w cx hw75 hp75
  refine s_gval rfl rfl rfl wT (fun hc => v_not rfl (by first | exact gve hc rfl | exact gve (and_l hc) rfl | exact gve (and_l (and_l hc)) rfl | rfl)) ?_
  refine s_gval rfl rfl rfl wF (fun hc => v_and_g hc rfl rfl rfl rfl) ?_
  refine s_val rfl rfl (v_or rfl rfl rfl rfl) ?_
  refine wpList_nil ?_
  refine c_split rfl (fun hc78 => ?_) (fun hc78 => ?_)
  · skip
    try simp only [bsl] at hc78
    exfalso
    rcases hc78 with ⟨h1, h2⟩ | ⟨h1, h2⟩
    · rw [hp66 (by simpa using h1)] at h2; cases h2
    · rw [hp75 (by rw [beq_eq_false_iff_ne.2 (show ¬ c.op = 2 by omega), beq_eq_false_iff_ne.2 (show ¬ c.op = 1 by omega)]; rfl)] at h2; cases h2
  try simp only [bsl] at hc78
  refine wp_skip ?_
  refine wp_seq ?_
  refine wp_seq ?_
  refine wp_region_lit ?_
  refine s_val rfl rfl (v_fa fa35_0 rfl rfl) ?_
  refine s_val rfl rfl (v_load1 rfl rfl Try.underlying3 rfl (cx.cell 0 rfl rfl)) ?_
  refine s_val rfl rfl (v_cmp rfl rfl rfl rfl) ?_
  refine wpList_nil ?_
  refine c_split rfl (fun hc81 => ?_) (fun hc81 => ?_)
  · skip
    try simp only [bsl] at hc81
    refine wp_seq ?_
    refine wp_region_lit ?_
    refine s_val rfl rfl (v_fa fa35_3 rfl rfl) ?_
    refine s_val rfl rfl (v_load rfl rfl Try.underlying33 rfl sz33 ((cx.row 0 rfl).rv 3 rfl) rfl) ?_
    refine s_fnI cx (c47x c.old _ _ (hvo.up cx.ext) hg.fo) Try.func47 rfl rfl rfl rfl rfl rfl ?_; intro q84 w cx hw84 hp84
    refine s_val rfl rfl (v_assign rfl rfl) ?_
    refine wpList_nil ?_
    refine wp_seq ?_
    refine wp_region_lit ?_
    refine s_val rfl rfl (v_move rfl rfl) ?_
    refine s_val rfl rfl (v_cmp rfl rfl rfl rfl) ?_
    refine wpList_nil ?_
    refine c_split rfl (fun hc86 => ?_) (fun hc86 => ?_)
    · skip
      exfalso
      exact absurd (hp84.2 (hg.go hc81).1 (hg.go hc81).2) (by simpa using hc86)
    try simp only [bsl] at hc86
    refine wp_skip ?_
    refine wp_seq ?_
    refine wp_seq ?_
    refine wp_region_lit ?_
    refine s_val rfl rfl (v_move rfl rfl) ?_
    refine wpList_nil ?_
    refine c_split rfl (fun hc88 => ?_) (fun hc88 => ?_)
    · skip
      try simp only [bsl] at hc88
      refine wp_seq ?_
      refine wp_region_lit ?_
      refine s_val rfl rfl (v_fa fa35_4 rfl rfl) ?_
      refine s_val rfl rfl (v_load rfl rfl Try.underlying33 rfl sz33 ((cx.row 0 rfl).rv 16 rfl) rfl) ?_
      refine s_fnI cx (c47x c.new _ _ (hvn.up cx.ext) hg.fn) Try.func47 rfl rfl rfl rfl rfl rfl ?_; intro q91 w cx hw91 hp91
      refine s_val rfl rfl (v_assign rfl rfl) ?_
      refine wpList_nil ?_
      refine wp_ret ?_
      refine ret_tmp Try.results103 rfl ?_
      exact ⟨cx.ext, _, rfl, by first | rfl | exact hp91.2 (hg.gn (by omega)).1 (hg.gn (by omega)).2⟩
    try simp only [bsl] at hc88
    refine wp_skip ?_
    refine wp_seq ?_
    refine wp_region_lit ?_
    refine s_val rfl rfl (v_assign rfl rfl) ?_
    refine wpList_nil ?_
    refine wp_ret ?_
    refine ret_tmp Try.results103 rfl ?_
    exact ⟨cx.ext, _, rfl, by first | rfl | exact hp91.2 (hg.gn (by omega)).1 (hg.gn (by omega)).2⟩
  try simp only [bsl] at hc81
  refine wp_skip ?_
  refine wp_seq ?_
  refine wp_seq ?_
  refine wp_region_lit ?_
  refine s_val rfl rfl (v_move rfl rfl) ?_
  refine wpList_nil ?_
  refine c_split rfl (fun hc88 => ?_) (fun hc88 => ?_)
  · skip
    try simp only [bsl] at hc88
    refine wp_seq ?_
    refine wp_region_lit ?_
    refine s_val rfl rfl (v_fa fa35_4 rfl rfl) ?_
    refine s_val rfl rfl (v_load rfl rfl Try.underlying33 rfl sz33 ((cx.row 0 rfl).rv 16 rfl) rfl) ?_
    refine s_fnI cx (c47x c.new _ _ (hvn.up cx.ext) hg.fn) Try.func47 rfl rfl rfl rfl rfl rfl ?_; intro q91 w cx hw91 hp91
    refine s_val rfl rfl (v_assign rfl rfl) ?_
    refine wpList_nil ?_
    refine wp_ret ?_
    refine ret_tmp Try.results103 rfl ?_
    exact ⟨cx.ext, _, rfl, by first | rfl | exact hp91.2 (hg.gn (by omega)).1 (hg.gn (by omega)).2⟩
  try simp only [bsl] at hc88
  refine wp_skip ?_
  refine wp_seq ?_
  refine wp_region_lit ?_
  refine s_val rfl rfl (v_assign rfl rfl) ?_
  refine wpList_nil ?_
  refine wp_ret ?_
  refine ret_tmp Try.results103 rfl ?_
  exact ⟨cx.ext, _, rfl, by first | rfl | exact hp91.2 (hg.gn (by omega)).1 (hg.gn (by omega)).2⟩
end Go.Proofs.Ytmkihcdcgkdilaa
end
section
namespace Go.Proofs.Ytmkihcdcgkdilaa
open Go Go.Dk Go.RowKit
set_option linter.unusedSimpArgs false
set_option linter.unusedVariables false
attribute [local irreducible] Go.wpList Go.Code.wp Go.bodyPost Go.wpStill
set_option maxRecDepth 10000 in
theorem c73 : ∀ (d : Nat) (dd left : Int) (v : V) (l : List Value) (w0 : World), dd = d → d ≤ 100000 → 0 ≤ left → left ≤ 1000 → Val w0 v l → Fine v →
    Fc Try.prog 73 [.agg l.toArray, .int .i64 left, .int .i64 dd] w0 (IsI fun m => (-1 ≤ m ∧ m ≤ left) ∧ (0 ≤ m → deep d v ∧ m + tsz d v = left)) := by
  intro d
  induction d using Nat.strongRecOn with
  | _ d ih =>
  intro dd left v l w0 hd hd2 hl1 hl2 hv hf
  obtain ⟨bs, ls, fs, rfl, hbs, hls, hfs⟩ := hv.open
  have hls0 := hls
  have hfs0 := hfs
  obtain ⟨la, lc, lb, lo, rfl, hla, hlget⟩ := hls0.open
  obtain ⟨fa, fc, fb, fo, rfl, hfa, hfget⟩ := hfs0.open
  have hz := hf.self
  refine ret_enter Try.func73 rfl Try.ntmps73 rfl ?_
  have cx := Ctx.start w0
  refine wp_seq ?_
  refine wp_region_lit ?_
  refine s_box cx rfl rfl rfl rfl rfl ?_; intro b3 w cx hb3 hw3
  refine s_val rfl rfl (v_assign rfl rfl) ?_
  refine wpList_nil ?_
  refine wp_seq ?_
  refine wp_region_lit ?_
  refine s_val rfl rfl (v_move rfl rfl) ?_
  refine s_val rfl rfl (v_sub rfl rfl rfl (by omega) (by omega)) ?_
  refine s_val rfl rfl (v_assign rfl rfl) ?_
  refine wpList_nil ?_
  refine wp_seq ?_
  refine wp_seq ?_
  refine wp_region_lit ?_
  refine s_val rfl rfl (v_move rfl rfl) ?_
  refine s_val rfl rfl (v_cmp rfl rfl rfl rfl) ?_
  refine s_val rfl rfl (v_move rfl rfl) ?_
  refine s_gval rfl rfl rfl wF (fun hc => v_fa fa33_6 rfl (by first | exact gve hc rfl | exact gve (and_l hc) rfl | exact gve (and_l (and_l hc)) rfl | rfl)) ?_
  refine s_gval rfl rfl rfl wF (fun hc => v_load1 rfl (by first | exact gve hc rfl | exact gve (and_l hc) rfl | exact gve (and_l (and_l hc)) rfl | rfl) Try.underlying30 rfl (cx.cell 0 rfl rfl)) ?_
  refine s_gval rfl rfl rfl wF (fun hc => v_lenSlice rfl (by first | exact gve hc rfl | exact gve (and_l hc) rfl | exact gve (and_l (and_l hc)) rfl | rfl) Try.underlying30) ?_
  refine s_gval rfl rfl rfl wF (fun hc => v_move rfl (by first | exact gve hc rfl | exact gve (and_l hc) rfl | exact gve (and_l (and_l hc)) rfl | rfl)) ?_
  refine s_gval rfl rfl rfl wF (fun hc => v_cmp rfl (by first | exact gve hc rfl | exact gve (and_l hc) rfl | exact gve (and_l (and_l hc)) rfl | rfl) (by first | exact gve hc rfl | exact gve (and_l hc) rfl | exact gve (and_l (and_l hc)) rfl | rfl) rfl) ?_
  refine s_val rfl rfl (v_or rfl rfl rfl rfl) ?_
  refine s_val rfl rfl (v_move rfl rfl) ?_
  refine s_gval rfl rfl rfl wF (fun hc => v_fa fa33_7 rfl (by first | exact gve hc rfl | exact gve (and_l hc) rfl | exact gve (and_l (and_l hc)) rfl | rfl)) ?_
  refine s_gval rfl rfl rfl wF (fun hc => v_load1 rfl (by first | exact gve hc rfl | exact gve (and_l hc) rfl | exact gve (and_l (and_l hc)) rfl | rfl) Try.underlying31 rfl (cx.cell 0 rfl rfl)) ?_
  refine s_gval rfl rfl rfl wF (fun hc => v_lenSlice rfl (by first | exact gve hc rfl | exact gve (and_l hc) rfl | exact gve (and_l (and_l hc)) rfl | rfl) Try.underlying31) ?_
  refine s_gval rfl rfl rfl wF (fun hc => v_move rfl (by first | exact gve hc rfl | exact gve (and_l hc) rfl | exact gve (and_l (and_l hc)) rfl | rfl)) ?_
  refine s_gval rfl rfl rfl wF (fun hc => v_cmp rfl (by first | exact gve hc rfl | exact gve (and_l hc) rfl | exact gve (and_l (and_l hc)) rfl | rfl) (by first | exact gve hc rfl | exact gve (and_l hc) rfl | exact gve (and_l (and_l hc)) rfl | rfl) rfl) ?_
  refine s_val rfl rfl (v_or rfl rfl rfl rfl) ?_
  refine wpList_nil ?_
  refine c_split rfl (fun hc26 => ?_) (fun hc26 => ?_)
  · skip
    try simp only [bsl] at hc26
    refine wp_seq ?_
    refine wp_region_lit ?_
    refine s_val rfl rfl (v_assign rfl rfl) ?_
    refine wpList_nil ?_
    refine wp_ret ?_
    refine ret_tmp Try.results73 rfl ?_
    exact ⟨cx.ext, _, rfl, ⟨by omega, by omega⟩, fun h => by omega⟩
  try simp only [bsl] at hc26
  refine wp_skip ?_
  refine wp_seq ?_
  refine wp_seq ?_
  refine wp_region_lit ?_
  refine s_val rfl rfl (v_assign rfl rfl) ?_
  refine wpList_nil ?_
  refine wp_block ?_
  refine w_loop (fun k f w1 => ∃ (i : Nat) (m : Int), k + i = v.list.length ∧ -1 ≤ m ∧ m ≤ left ∧ f 2 = .int .i64 dd ∧ f 1 = .int .i64 m ∧ f 3 = .pointer (some ⟨b3, 0, none⟩) ∧ f 7 = .int .i64 i ∧ Ctx w0 w1 [(b3, .cells (vrow v.sc bs (.slice la v.list.length lc) (.slice fa v.fields.length fc)).toArray 33)] ∧ (0 ≤ m → (∀ x ∈ (v.list).take i, deep (d - 1) x) ∧ m + (((v.list).take i).map (tsz (d - 1))).sum = left - 1)) (v.list.length) ?_ ?_
  · skip
    exact ⟨0, _, by omega, by omega, by omega, rfl, rfl, rfl, rfl, cx, fun _ => by simp⟩
  intro gk5 f w hJ
  obtain ⟨i5, m5, hk5, hm15, hm25, hs2, hs1, hs3, hs7, cx, hacc5⟩ := hJ
  refine wp_seq ?_
  refine wp_seq ?_
  refine wp_region_lit ?_
  refine s_val rfl rfl (v_move rfl hs7) ?_
  refine s_val rfl rfl (v_fa fa33_6 rfl hs3) ?_
  refine s_val rfl rfl (v_load1 rfl rfl Try.underlying30 rfl (cx.cell 0 rfl rfl)) ?_
  refine s_val rfl rfl (v_lenSlice rfl rfl Try.underlying30) ?_
  refine s_val rfl rfl (v_cmp rfl rfl rfl rfl) ?_
  refine s_val rfl rfl (v_move rfl rfl) ?_
  refine s_gval rfl rfl rfl wT (fun hc => v_move rfl hs1) ?_
  refine s_gval rfl rfl rfl wT (fun hc => v_cmp rfl (by first | exact gve hc rfl | exact gve (and_l hc) rfl | exact gve (and_l (and_l hc)) rfl | rfl) rfl rfl) ?_
  refine s_val rfl rfl (v_and rfl rfl rfl rfl) ?_
  refine wpList_nil ?_
  refine c_split rfl (fun hc35 => ?_) (fun hc35 => ?_)
  · skip
    try simp only [bsl] at hc35
    obtain rfl := hla (by omega)
    obtain ⟨r, hr, hrv⟩ := hlget i5 v.list[i5] (List.getElem?_eq_getElem (by omega))
    refine wp_skip ?_
    refine wp_seq ?_
    refine wp_block ?_
    refine wp_region_lit ?_
    refine s_val rfl rfl (v_fa fa33_6 rfl hs3) ?_
    refine s_val rfl rfl (v_load1 rfl rfl Try.underlying30 rfl (cx.cell 0 rfl rfl)) ?_
    refine s_val rfl rfl (v_move rfl hs7) ?_
    refine s_val rfl rfl (v_ia Try.underlying30 sz33 rfl rfl rfl (by omega) (by omega)) ?_
    refine s_val rfl rfl (v_load rfl rfl Try.underlying33 rfl sz33 (hr.up cx.ext) hrv.len) ?_
    refine s_val rfl rfl (v_move rfl hs1) ?_
    refine s_val rfl rfl (v_move rfl hs2) ?_
    refine s_val rfl rfl (v_sub rfl rfl rfl (by omega) (by omega)) ?_
    refine s_fnI cx (ih (d - 1) (by omega) _ _ _ _ _ (by omega) (by omega) (by omega) (by omega) (hrv.up cx.ext) (hf.elem (List.getElem_mem _))) Try.func73 rfl rfl rfl rfl rfl rfl ?_; intro q46 w cx hw46 hp46
    refine s_val rfl rfl (v_assign rfl rfl) ?_
    refine wpList_nil ?_
    refine wp_region_lit ?_
    refine s_val rfl rfl (v_move rfl hs7) ?_
    refine s_val rfl rfl (v_add rfl rfl rfl (by omega) (by omega)) ?_
    refine s_val rfl rfl (v_assign rfl rfl) ?_
    refine wpList_nil ?_
    exact ⟨gk5 - 1, _, by omega, rfl, i5 + 1, q46, by omega, by omega, by omega, hs2, rfl, hs3, rfl, cx, room_step (by omega) hacc5 (by omega) hp46.2⟩
  try simp only [bsl] at hc35
  refine wp_exit ?_
  refine wp_seq ?_
  refine wp_seq ?_
  refine wp_region_lit ?_
  refine s_val rfl rfl (v_assign rfl rfl) ?_
  refine wpList_nil ?_
  refine wp_block ?_
  refine w_loop (fun k f w1 => ∃ (i : Nat) (m : Int), k + i = v.fields.length ∧ -1 ≤ m ∧ m ≤ left ∧ f 2 = .int .i64 dd ∧ f 1 = .int .i64 m ∧ f 3 = .pointer (some ⟨b3, 0, none⟩) ∧ f 8 = .int .i64 i ∧ Ctx w0 w1 [(b3, .cells (vrow v.sc bs (.slice la v.list.length lc) (.slice fa v.fields.length fc)).toArray 33)] ∧ (0 ≤ m → (∀ x ∈ (v.fields.map (·.2)).take i, deep (d - 1) x) ∧ m + (((v.fields.map (·.2)).take i).map (tsz (d - 1))).sum = m5)) (v.fields.length) ?_ ?_
  · skip
    exact ⟨0, _, by omega, by omega, by omega, hs2, hs1, hs3, rfl, cx, fun _ => by simp⟩
  intro gk9 f w hJ
  obtain ⟨i9, m9, hk9, hm19, hm29, hs2, hs1, hs3, hs8, cx, hacc9⟩ := hJ
  refine wp_seq ?_
  refine wp_seq ?_
  refine wp_region_lit ?_
  refine s_val rfl rfl (v_move rfl hs8) ?_
  refine s_val rfl rfl (v_fa fa33_7 rfl hs3) ?_
  refine s_val rfl rfl (v_load1 rfl rfl Try.underlying31 rfl (cx.cell 0 rfl rfl)) ?_
  refine s_val rfl rfl (v_lenSlice rfl rfl Try.underlying31) ?_
  refine s_val rfl rfl (v_cmp rfl rfl rfl rfl) ?_
  refine s_val rfl rfl (v_move rfl rfl) ?_
  refine s_gval rfl rfl rfl wT (fun hc => v_move rfl hs1) ?_
  refine s_gval rfl rfl rfl wT (fun hc => v_cmp rfl (by first | exact gve hc rfl | exact gve (and_l hc) rfl | exact gve (and_l (and_l hc)) rfl | rfl) rfl rfl) ?_
  refine s_val rfl rfl (v_and rfl rfl rfl rfl) ?_
  refine wpList_nil ?_
  refine c_split rfl (fun hc55 => ?_) (fun hc55 => ?_)
  · skip
    try simp only [bsl] at hc55
    obtain rfl := hfa (by omega)
    obtain ⟨r, hr, hrv⟩ := hfget i9 v.fields[i9] (List.getElem?_eq_getElem (by omega))
    refine wp_skip ?_
    refine wp_seq ?_
    refine wp_block ?_
    refine wp_region_lit ?_
    refine s_val rfl rfl (v_fa fa33_7 rfl hs3) ?_
    refine s_val rfl rfl (v_load1 rfl rfl Try.underlying31 rfl (cx.cell 0 rfl rfl)) ?_
    refine s_val rfl rfl (v_move rfl hs8) ?_
    refine s_val rfl rfl (v_ia Try.underlying31 sz77 rfl rfl rfl (by omega) (by omega)) ?_
    refine s_val rfl rfl (v_fa fa77_1 rfl rfl) ?_
    refine s_val rfl rfl (v_load rfl rfl Try.underlying33 rfl sz33 (hr.tail.up cx.ext) hrv.len) ?_
    refine s_val rfl rfl (v_move rfl hs1) ?_
    refine s_val rfl rfl (v_move rfl hs2) ?_
    refine s_val rfl rfl (v_sub rfl rfl rfl (by omega) (by omega)) ?_
    refine s_fnI cx (ih (d - 1) (by omega) _ _ _ _ _ (by omega) (by omega) (by omega) (by omega) (hrv.up cx.ext) (hf.field (List.getElem_mem _)).2) Try.func73 rfl rfl rfl rfl rfl rfl ?_; intro q67 w cx hw67 hp67
    refine s_val rfl rfl (v_assign rfl rfl) ?_
    refine wpList_nil ?_
    refine wp_region_lit ?_
    refine s_val rfl rfl (v_move rfl hs8) ?_
    refine s_val rfl rfl (v_add rfl rfl rfl (by omega) (by omega)) ?_
    refine s_val rfl rfl (v_assign rfl rfl) ?_
    refine wpList_nil ?_
    exact ⟨gk9 - 1, _, by omega, rfl, i9 + 1, q67, by omega, by omega, by omega, hs2, rfl, hs3, rfl, cx, room_step (by simp; omega) hacc9 (by omega) (by simpa using hp67.2)⟩
  try simp only [bsl] at hc55
  refine wp_exit ?_
  refine wp_seq ?_
  refine wp_region_lit ?_
  refine s_val rfl rfl (v_move rfl hs1) ?_
  refine s_val rfl rfl (v_assign rfl rfl) ?_
  refine wpList_nil ?_
  refine wp_ret ?_
  refine ret_tmp Try.results73 rfl ?_
  refine ⟨cx.ext, _, rfl, ⟨by omega, by omega⟩, fun h => ?_⟩
  obtain ⟨e, rfl⟩ : ∃ e, d = e + 1 := ⟨d - 1, by omega⟩
  have e9 : i9 = v.fields.length := by omega
  have e5 : i5 = v.list.length := by omega
  subst e9 e5
  exact room_end hacc5 (by omega) hacc9 h
set_option maxRecDepth 10000 in
theorem c46 (v : V) (l : List Value) (m : Int) (w0 : World) (hm : 0 ≤ m ∧ m ≤ 1000) (hv : Val w0 v l) (hf : Fine v) : Fc Try.prog 46 [.agg l.toArray, .int .i64 m, .int .i64 60] w0 (IsB fun b => b = true → deep 60 v ∧ (tsz 60 v : Int) ≤ m) := by
  refine ret_enter Try.func46 rfl Try.ntmps46 rfl ?_
  have cx := Ctx.start w0
  refine wp_seq ?_
  refine wp_region_lit ?_
  refine s_box cx rfl rfl rfl rfl rfl ?_; intro b3 w cx hb3 hw3
  refine s_val rfl rfl (v_assign rfl rfl) ?_
  refine wpList_nil ?_
  refine wp_seq ?_
  refine wp_region_lit ?_
  refine s_val rfl rfl (v_load rfl rfl Try.underlying33 rfl sz33 (cx.row 0 rfl) (by first | rfl | exact hv.len)) ?_
  refine s_val rfl rfl (v_move rfl rfl) ?_
  refine s_val rfl rfl (v_move rfl rfl) ?_
  refine s_fnI cx (c73 60 _ _ _ _ _ (by omega) (by omega) (by omega) (by omega) (hv.up cx.ext) hf) Try.func73 rfl rfl rfl rfl rfl rfl ?_; intro q10 w cx hw10 hp10
  refine s_val rfl rfl (v_cmp rfl rfl rfl rfl) ?_
  refine s_val rfl rfl (v_assign rfl rfl) ?_
  refine wpList_nil ?_
  refine wp_ret ?_
  refine ret_tmp Try.results46 rfl ?_
  refine ⟨cx.ext, _, rfl, fun h => ?_⟩
  simp only [decide_eq_true_eq] at h
  have := hp10.2 h
  exact ⟨this.1, by omega⟩
end Go.Proofs.Ytmkihcdcgkdilaa
end
section
namespace Go.Proofs.Ytmkihcdcgkdilaa
open Go Go.Dk Go.RowKit
set_option linter.unusedSimpArgs false
set_option linter.unusedVariables false
attribute [local irreducible] Go.wpList Go.Code.wp Go.bodyPost Go.wpStill
set_option maxRecDepth 10000 in
theorem c70 (l : List Ch) (s1 : Value) (w0 : World) (h1 : Chs w0 s1 l) (hl : l.length ≤ 4096) (hg : ∀ c ∈ l, CGood c) : Fc Try.prog 70 [s1] w0 (fun x _ => x = .tuple #[.int .i64 0, .int .i64 0]) := by
  obtain ⟨a1, c1, b1, o1, rfl, hfa1, hg1⟩ := h1.form
  refine ret_enter Try.func70 rfl Try.ntmps70 rfl ?_
  have cx := Ctx.start w0
  refine wp_seq ?_
  refine wp_region_lit ?_
  refine s_val rfl rfl (v_assign rfl rfl) ?_
  refine s_val rfl rfl (v_assign rfl rfl) ?_
  refine wpList_nil ?_
  refine wp_seq ?_
  refine wp_seq ?_
  refine wp_region_lit ?_
  refine s_val rfl rfl (v_move rfl rfl) ?_
  refine s_val rfl rfl (v_lenSlice rfl rfl Try.underlying22) ?_
  refine s_val rfl rfl (v_cmp rfl rfl rfl rfl) ?_
  refine wpList_nil ?_
  refine c_split rfl (fun hc8 => ?_) (fun hc8 => ?_)
  · skip
    exfalso
    have := of_decide_eq_true hc8
    omega
  refine wp_skip ?_
  refine wp_seq ?_
  refine wp_seq ?_
  refine wp_region_lit ?_
  refine s_val rfl rfl (v_assign rfl rfl) ?_
  refine wpList_nil ?_
  refine wp_block ?_
  refine w_loop (fun k f w1 => ∃ i : Nat, k + i = l.length ∧ f 0 = .slice a1 l.length c1 ∧ f 4 = .int .i64 i ∧ Ctx w0 w1 []) (l.length) ?_ ?_
  · skip
    exact ⟨0, by omega, rfl, rfl, cx⟩
  intro gk4 f w hJ
  obtain ⟨i, hki, hs0, hs4, cx⟩ := hJ
  refine wp_seq ?_
  refine wp_seq ?_
  refine wp_region_lit ?_
  refine s_val rfl rfl (v_move rfl hs4) ?_
  refine s_val rfl rfl (v_move rfl hs0) ?_
  refine s_val rfl rfl (v_lenSlice rfl rfl Try.underlying22) ?_
  refine s_val rfl rfl (v_cmp rfl rfl rfl rfl) ?_
  refine wpList_nil ?_
  refine c_split rfl (fun hc12 => ?_) (fun hc12 => ?_)
  · skip
    try simp only [bsl] at hc12
    have hx : l[i]? = some l[i] := List.getElem?_eq_getElem (by omega)
    obtain rfl := hfa1 (by omega)
    have hx1 := hg1 i _ hx
    obtain ⟨r1, hr1, hk1⟩ := hx1
    have hn1 : r1.length = 29 := by obtain ⟨_, _, _, _, _, _, _, rfl, _⟩ := hk1.form; rfl
    refine wp_skip ?_
    refine wp_seq ?_
    refine wp_block ?_
    refine wp_seq ?_
    refine wp_region_lit ?_
    refine s_val rfl rfl (v_move rfl hs0) ?_
    refine s_val rfl rfl (v_move rfl hs4) ?_
    refine s_val rfl rfl (v_ia Try.underlying22 sz35 rfl rfl rfl (by omega) (by omega)) ?_
    refine s_val rfl rfl (v_load rfl rfl Try.underlying35 rfl sz35 (hr1.up cx.ext) hn1) ?_
    refine s_fnI cx (c103 l[i] _ _ (hk1.up cx.ext) (hg _ (List.getElem_mem _))) Try.func103 rfl rfl rfl rfl rfl rfl ?_; intro q19 w cx hw19 hp19
    refine s_val rfl rfl (v_assign rfl rfl) ?_
    refine wpList_nil ?_
    refine wp_seq ?_
    refine wp_region_lit ?_
    refine s_val rfl rfl (v_move rfl rfl) ?_
    refine s_val rfl rfl (v_cmp rfl rfl rfl rfl) ?_
    refine wpList_nil ?_
    refine c_split rfl (fun hc21 => ?_) (fun hc21 => ?_)
    · skip
      exfalso
      rw [hp19] at hc21
      cases hc21
    refine wp_skip ?_
    refine wp_region_lit ?_
    refine s_val rfl rfl (v_move rfl hs4) ?_
    refine s_val rfl rfl (v_add rfl rfl rfl (by omega) (by omega)) ?_
    refine s_val rfl rfl (v_assign rfl rfl) ?_
    refine wpList_nil ?_
    exact ⟨gk4 - 1, _, by omega, rfl, i + 1, by omega, hs0, rfl, cx⟩
  try simp only [bsl] at hc12
  refine wp_exit ?_
  refine wp_seq ?_
  refine wp_region_lit ?_
  refine s_val rfl rfl (v_assign rfl rfl) ?_
  refine s_val rfl rfl (v_assign rfl rfl) ?_
  refine wpList_nil ?_
  refine wp_ret ?_
  refine ret_tmp2 Try.results70 rfl rfl ?_
  exact ⟨cx.ext, rfl⟩
set_option maxRecDepth 10000 in
theorem c17x (v : V) (l : List Value) (w0 : World) (hv : Val w0 v l) (hf : Fine v) : Fc Try.prog 17 [.agg l.toArray] w0 (IsB fun b => b = true → Gok 48 v ∧ deep 60 v ∧ tsz 60 v ≤ 150) := by
  have hvl := hv.len
  refine ret_enter Try.func17 rfl Try.ntmps17 rfl ?_
  have cx := Ctx.start w0
  refine wp_seq ?_
  refine wp_region_lit ?_
  refine s_box cx rfl rfl rfl rfl rfl ?_; intro b1 w cx hb1 hw1
  refine s_val rfl rfl (v_assign rfl rfl) ?_
  refine wpList_nil ?_
  refine wp_seq ?_
  refine wp_region_lit ?_
  refine s_val rfl rfl (v_load rfl rfl Try.underlying33 rfl sz33 (cx.row 0 rfl) (by first | rfl | exact hv.len)) ?_
  refine s_fnB cx (c46 v _ 150 _ (by omega) (hv.up cx.ext) hf) Try.func46 rfl rfl rfl rfl rfl rfl ?_; intro q4 w cx hw4 hp4
  refine s_val rfl rfl (v_move rfl rfl) ?_
  refine s_gval rfl rfl rfl wT (fun hc => v_load rfl (by first | exact gve hc rfl | exact gve (and_l hc) rfl | exact gve (and_l (and_l hc)) rfl | rfl) Try.underlying33 rfl sz33 (cx.row 0 rfl) (by first | rfl | exact hv.len)) ?_
  refine s_gfnI cx rfl rfl rfl wT (fun hc => c47x v _ _ (hv.up cx.ext) hf) Try.func47 rfl rfl rfl (fun hc => (cons_eq (by first | exact gve hc rfl | exact gve (and_l hc) rfl | exact gve (and_l (and_l hc)) rfl | rfl) rfl)) ?_; intro q7 w cx hw7 hp7
  refine s_gval rfl rfl rfl wT (fun hc => v_cmp rfl (by first | exact gve hc rfl | exact gve (and_l hc) rfl | exact gve (and_l (and_l hc)) rfl | rfl) rfl rfl) ?_
  refine s_val rfl rfl (v_and rfl rfl rfl rfl) ?_
  refine s_val rfl rfl (v_assign rfl rfl) ?_
  refine wpList_nil ?_
  refine wp_ret ?_
  refine ret_tmp Try.results17 rfl ?_
  refine ⟨cx.ext, _, rfl, fun h => ?_⟩
  simp only [Bool.and_eq_true, beq_iff_eq] at h
  have h4 := hp4 h.1
  exact ⟨((hp7 h.1).1 h.2).1, h4.1, by omega⟩
end Go.Proofs.Ytmkihcdcgkdilaa
end
section
namespace Go.Proofs.Ytmkihcdcgkdilaa
open Go Go.Dk Go.RowKit
set_option linter.unusedSimpArgs false
set_option linter.unusedVariables false
attribute [local irreducible] Go.wpList Go.Code.wp Go.bodyPost Go.wpStill
section
variable {w0 w w' wb : World} {L L' : List (Nat × Obj)} {R R' : List Row} {A : Nat → Prop} {B : Nat} {v : V} {r : List Value}
theorem valE (cx : Cxr w0 w L R) (cx' : Cxr w0 w' L' R') (hA : ∀ b, A b → b < w0.heap.size) (h : RepV A w v r) : Val w' v r :=
  RepV.mono (fun b hb => Nat.lt_of_lt_of_le (hA b hb) cx'.ext.size) (fun _ _ => rfl) _ _ (repE cx cx' hA h)
theorem fxE (cx : Cxr w0 w L R) (cx' : Cxr w0 w' L' R') (hA : ∀ b, A b → b < w0.heap.size) (h : RepV A w v r) : RepV (FX A w0.heap.size w' L' R') w' v r :=
  RepV.mono (fun b hb => ⟨F.old cx' b (hA b hb), .inl hb⟩) (fun _ _ => rfl) _ _ (repE cx cx' hA h)
theorem fxSet (cx : Cxr wb w L R) (i : Nat) {b : Nat} {o o' : Obj} (hi : L[i]? = some (b, o)) (hg : w.grownBy w' (some b)) (h : RepV (FX A B w L R) w v r) : RepV (FX A B w' (L.set i (b, o')) R) w' v r :=
  (Fz.set hi hg).repA h
end
theorem ers_back {α : Type} {l : List α} {i : Nat} {x : α} (hi : l[i]? = some x) : (l.eraseIdx i).take i ++ x :: (l.eraseIdx i).drop i = l := by
  obtain ⟨h, rfl⟩ := List.getElem?_eq_some_iff.1 hi
  have e : (l.take i).length = i := by rw [List.length_take]; omega
  rw [List.eraseIdx_eq_take_drop_succ, List.take_left' e, List.drop_left' e, List.getElem_cons_drop, List.take_append_drop]
theorem AtP.snoc {Q : V → V → Prop} {s : Stp} {m m' m2 : V} {p : List Stp} {v v' : V} (h : AtP (fun y z => y = m ∧ z = m') p v v') (hq : AtP Q [s] m m2) : ∃ v2, AtP Q (p ++ [s]) v v2 := by
  induction h with
  | here h => obtain ⟨rfl, rfl⟩ := h; exact ⟨_, hq⟩
  | elem l i x x' hi h ih => obtain ⟨y, hy⟩ := ih; exact ⟨_, .elem l i x y hi hy⟩
  | field fs i k x x' hi h ih => obtain ⟨y, hy⟩ := ih; exact ⟨_, .field fs i k x y hi hy⟩
set_option maxRecDepth 10000 in
theorem c71rep (p : List Stp) (old new v v' : V) (l r : List Value) (e : Nat) (A : Nat → Prop) (w0 : World) (hA : ∀ b, A b → b < w0.heap.size) (h : AtP (fun m m' => m = old ∧ m' = new) p v v') (hpk : POk p) (hgv : Gok e v) (hfv : Fine v) (hfo : Fine old) (hv : RepV A w0 v l) (hc : chA A w0 ⟨1, p, 0, old, new⟩ r) :
    Fc Try.prog 71 [.agg l.toArray, .agg r.toArray] w0 (fun x w' => ∃ r, x = .tuple #[.agg r.toArray, .bool true] ∧ RepV (fun b => A b ∨ Fr w0 w' b) w' v' r) := by
  have hc1 : ∃ ps ro rn, r = .int .i64 1 :: ps :: .int .i64 0 :: (ro ++ rn) ∧ PthA A w0 ps (p) ∧ RepV A w0 (old) ro ∧ RepV A w0 (new) rn := hc
  obtain ⟨ps, ro, rn, rfl, hpa, hvo, hvn⟩ := hc1
  have hpl := hpk.1
  try simp only [List.length_append, List.length_cons, List.length_nil] at hpl
  have hO1 := RepV.open hvo
  obtain ⟨bo, lo, fo, rfl, _⟩ := hO1
  have hO2 := RepV.open hvn
  obtain ⟨bn, ln, fn, rfl, _⟩ := hO2
  have hpt : Pth w0 ps _ := PthA.mono hA (fun _ _ => rfl) hpa
  have cw := Ctx.start w0
  have hvr := hv.len
  have hro := hvo.len
  have hrn := hvn.len
  refine ret_enter Try.func71 rfl Try.ntmps71 rfl ?_
  have cx := Ctx.start w0
  refine wp_seq ?_
  refine wp_region_lit ?_
  refine s_box cx rfl rfl rfl rfl rfl ?_; intro b2 w cx hb2 hw2
  refine s_box cx rfl rfl rfl rfl rfl ?_; intro b3 w cx hb3 hw3
  refine s_alloc cx z33 rfl rfl rfl ?_; intro b4 w cx hb4 hw4
  refine s_val rfl rfl (v_assign rfl rfl) ?_
  refine wpList_nil ?_
  refine wp_seq ?_
  refine wp_seq ?_
  refine wp_region_lit ?_
  refine s_val rfl rfl (v_fa fa35_0 rfl rfl) ?_
  refine s_val rfl rfl (v_load1 rfl rfl Try.underlying3 rfl (cx.cell 1 rfl rfl)) ?_
  refine s_val rfl rfl (v_cmp rfl rfl rfl rfl) ?_
  refine wpList_nil ?_
  refine c_split rfl (fun hc21 => ?_) (fun hc21 => ?_)
  · skip
    exfalso
    simp at hc21
  refine wp_skip ?_
  refine wp_seq ?_
  refine wp_region_lit ?_
  refine s_val rfl rfl (v_load rfl rfl Try.underlying33 rfl sz33 (cx.row 2 rfl) hv.len) ?_
  refine s_val rfl rfl (v_fa fa35_1 rfl rfl) ?_
  refine s_val rfl rfl (v_load1 rfl rfl Try.underlying24 rfl (cx.cell 1 rfl rfl)) ?_
  refine s_fn cx (c104 old p v v' l _ e A w (fun b hb => Nat.lt_of_lt_of_le (hA b hb) cx.ext.size) (AtP.imp (fun _ _ h => h.1) h) hgv hfv (hpt.up cx.ext) hpk (repE cw cx hA hv)) Try.func104 rfl rfl rfl rfl rfl rfl ?_; intro q108 w cx hw108 hp108
  obtain ⟨r108, rfl, hr108⟩ := hp108
  have cx108 := cx
  refine s_val rfl rfl (v_move rfl rfl) ?_
  refine s_val rfl rfl (v_extract rfl rfl rfl) ?_
  refine s_val rfl rfl (v_extract rfl rfl rfl) ?_
  refine s_alloc cx z33 rfl rfl rfl ?_; intro b12 w cx hb12 hw12
  refine s_storeAllG cx 0 rfl rfl rfl rfl rfl rfl (by rw [hr108.len]; exact sz33) (by rw [hr108.len]; rfl) hr108.one ?_; intro w cx hg14
  replace cx := cx.set0
  refine s_val rfl rfl (v_assign rfl rfl) ?_
  refine wpList_nil ?_
  refine wp_seq ?_
  refine wp_seq ?_
  refine wp_region_lit ?_
  refine s_val rfl rfl (v_move rfl rfl) ?_
  refine s_val rfl rfl (v_cmp rfl rfl rfl rfl) ?_
  refine s_val rfl rfl (v_move rfl rfl) ?_
  refine s_gval rfl rfl rfl wF (fun hc => v_load rfl rfl Try.underlying33 rfl sz33 (cx.row 0 rfl) hr108.len) ?_
  refine s_gval rfl rfl rfl wF (fun hc => v_fa fa35_3 rfl (by first | exact gve hc rfl | exact gve (and_l hc) rfl | exact gve (and_l (and_l hc)) rfl | rfl)) ?_
  refine s_gval rfl rfl rfl wF (fun hc => v_load rfl (gve hc rfl) Try.underlying33 rfl sz33 ((cx.row 2 rfl).rv 3 rfl) rfl) ?_
  refine s_gfnB cx rfl rfl rfl wF (fun hc => c27 old old r108 (vrow old.sc bo lo fo) _ hfo hfo (valE cx108 cx hA hr108) (valE cw cx hA hvo)) Try.func27 rfl rfl rfl (fun hc => cons_eq (gve hc rfl) (cons_eq (gve hc rfl) rfl)) ?_; intro q117 w cx hw117 hp117
  refine s_gval rfl rfl rfl wF (fun hc => v_not rfl (by first | exact gve hc rfl | exact gve (and_l hc) rfl | exact gve (and_l (and_l hc)) rfl | rfl)) ?_
  refine s_val rfl rfl (v_or rfl rfl rfl rfl) ?_
  refine wpList_nil ?_
  refine c_split rfl (fun hc119 => ?_) (fun hc119 => ?_)
  · skip
    exfalso
    rw [(hp117 rfl).2 rfl] at hc119
    cases hc119
  refine wp_skip ?_
  refine wp_seq ?_
  refine wp_seq ?_
  refine wp_region_lit ?_
  refine s_val rfl rfl (v_fa fa35_0 rfl rfl) ?_
  refine s_val rfl rfl (v_load1 rfl rfl Try.underlying3 rfl (cx.cell 2 rfl rfl)) ?_
  refine wpList_nil ?_
  refine wp_block ?_
  refine wp_seq ?_
  refine wp_region_lit ?_
  refine s_val rfl rfl (v_cmp rfl rfl rfl rfl) ?_
  refine s_val rfl rfl (v_assign rfl rfl) ?_
  refine wpList_nil ?_
  refine c_split rfl (fun hc123 => ?_) (fun hc123 => ?_)
  · skip
    refine wp_seq ?_
    refine wp_region_lit ?_
    refine s_val rfl rfl (v_load rfl rfl Try.underlying33 rfl sz33 (cx.row 3 rfl) hv.len) ?_
    refine s_val rfl rfl (v_fa fa35_1 rfl rfl) ?_
    refine s_val rfl rfl (v_load1 rfl rfl Try.underlying24 rfl (cx.cell 2 rfl rfl)) ?_
    refine s_val rfl rfl (v_fa fa35_4 rfl rfl) ?_
    refine s_val rfl rfl (v_load rfl rfl Try.underlying33 rfl sz33 ((cx.row 2 rfl).rv 16 rfl) rfl) ?_
    have cxp := cx
    refine s_fn cx (c108 new (vrow new.sc bn ln fn) p v v' l _ e _ _ FX.lt (AtP.imp (fun _ _ h => h.2) h) hgv hfv (hpt.up cx.ext) (by have := hpk.1; omega) (fxE cw cx hA hv) (fxE cw cx hA hvn)) Try.func108 rfl rfl rfl rfl rfl rfl ?_; intro q130 w cx hw130 hp130
    obtain ⟨r130, rfl, hr130⟩ := hp130
    replace hr130 := FX.res cxp hw130 cxp.ext.size hr130
    have cxp := cx
    refine s_storeAllG cx 1 rfl rfl rfl rfl rfl rfl (by rw [hr130.len]; exact sz33) (by rw [hr130.len]; rfl) hr130.one ?_; intro w cx hg19
    replace hr130 := fxSet cxp 1 (o' := .cells r130.toArray 33) rfl hg19 hr130
    refine s_val rfl rfl (v_assign rfl rfl) ?_
    refine wpList_nil ?_
    refine wp_ret ?_
    exact ret_cell2 Try.results71 rfl rfl (cx.at 1 rfl) Try.underlying33 rfl (by rw [hr130.len]; exact sz33) ⟨cx.ext, _, rfl, FX.out hr130⟩
  exfalso
  simp at hc123
end Go.Proofs.Ytmkihcdcgkdilaa
end
section
namespace Go.Proofs.Ytmkihcdcgkdilaa
open Go Go.Dk Go.RowKit
set_option linter.unusedSimpArgs false
set_option linter.unusedVariables false
attribute [local irreducible] Go.wpList Go.Code.wp Go.bodyPost Go.wpStill
theorem fnd_ls {l : List V} {i : Nat} {k e : Int} (h : Fnd (lsV l) (idxS i) k e) : e = 0 ∨ e = 7 := by
  rcases h.1 rfl with ⟨h1, _⟩ | ⟨_, _, _, _, h1⟩ | ⟨_, _, h1⟩
  · exact absurd rfl h1
  · exact .inl h1
  · exact .inr h1
theorem fnd_new {fs : Fs} {t : Nat} {key : ByteArray} {x : V} {k e : Int} (hi : fs[t]? = some (key, x)) (hn : (keysOf fs).Nodup) (h : Fnd (mapV (fs.eraseIdx t)) (keyS key) k e) : e = 7 := by
  rcases h.2 rfl with ⟨h1, _⟩ | ⟨_, q, _, _, hq, h2⟩ | ⟨_, h1, _⟩
  · exact absurd rfl h1
  · exfalso
    obtain ⟨ht, he⟩ := List.getElem?_eq_some_iff.1 hi
    have hq' : q < (fs.eraseIdx t).length := hq
    have hl := List.length_eraseIdx_of_lt ht
    have h3 : (fs.eraseIdx t)[q].1 = key := h2
    rw [List.getElem_eraseIdx] at h3
    split at h3
    · have := keys_at hn (i := q) (j := t) (by omega) ht (by rw [h3, he])
      omega
    · have := keys_at hn (i := q + 1) (j := t) (by omega) ht (by rw [h3, he])
      omega
  · exact h1
set_option maxRecDepth 10000 in
theorem c71insE (new v v' : V) (up : List Stp) (ls : List V) (i : Nat) (l r : List Value) (e : Nat) (A : Nat → Prop) (w0 : World) (hA : ∀ b, A b → b < w0.heap.size) (hi : ls[i]? = some new) (h : AtP (fun y z => y = lsV (ls.eraseIdx i) ∧ z = lsV ls) up v v') (hpk : POk (up ++ [idxS i])) (hgv : Gok e v) (hfv : Fine v) (hfm : Fine (lsV (ls.eraseIdx i))) (hv : RepV A w0 v l) (hc : chA A w0 ⟨2, up ++ [idxS i], 0, nulV, new⟩ r) :
    Fc Try.prog 71 [.agg l.toArray, .agg r.toArray] w0 (fun x w' => ∃ r, x = .tuple #[.agg r.toArray, .bool true] ∧ RepV (fun b => A b ∨ Fr w0 w' b) w' v' r) := by
  have hc1 : ∃ ps ro rn, r = .int .i64 2 :: ps :: .int .i64 0 :: (ro ++ rn) ∧ PthA A w0 ps (up ++ [idxS i]) ∧ RepV A w0 (nulV) ro ∧ RepV A w0 (new) rn := hc
  obtain ⟨ps, ro, rn, rfl, hpa, hvo, hvn⟩ := hc1
  have hpl := hpk.1
  try simp only [List.length_append, List.length_cons, List.length_nil] at hpl
  have hO1 := RepV.open hvo
  obtain ⟨bo, lo, fo, rfl, _⟩ := hO1
  have hO2 := RepV.open hvn
  obtain ⟨bn, ln, fn, rfl, _⟩ := hO2
  have hpt : Pth w0 ps _ := PthA.mono hA (fun _ _ => rfl) hpa
  have hil := (List.getElem?_eq_some_iff.1 hi).1
  have hel := List.length_eraseIdx_of_lt hil
  have cw := Ctx.start w0
  have hvr := hv.len
  have hro := hvo.len
  have hrn := hvn.len
  have hO3 := hpt.form
  obtain ⟨pa, pc, pb, pof, rfl, hpa2, hget⟩ := hO3
  have hO4 := hpa2 (by simp)
  obtain rfl := hO4
  have hrs : RowAt w0 pb (pof + up.length * 3) (srow (idxS i)) := hget up.length _ (by rw [List.getElem?_append_right (Nat.le_refl _), Nat.sub_self]; rfl)
  have hcap := hpt.cap.2
  have hpi := hpt.init
  refine ret_enter Try.func71 rfl Try.ntmps71 rfl ?_
  have cx := Ctx.start w0
  refine wp_seq ?_
  refine wp_region_lit ?_
  refine s_box cx rfl rfl rfl rfl rfl ?_; intro b2 w cx hb2 hw2
  refine s_box cx rfl rfl rfl rfl rfl ?_; intro b3 w cx hb3 hw3
  refine s_alloc cx z33 rfl rfl rfl ?_; intro b4 w cx hb4 hw4
  refine s_val rfl rfl (v_assign rfl rfl) ?_
  refine wpList_nil ?_
  refine wp_seq ?_
  refine wp_seq ?_
  refine wp_region_lit ?_
  refine s_val rfl rfl (v_fa fa35_0 rfl rfl) ?_
  refine s_val rfl rfl (v_load1 rfl rfl Try.underlying3 rfl (cx.cell 1 rfl rfl)) ?_
  refine s_val rfl rfl (v_cmp rfl rfl rfl rfl) ?_
  refine wpList_nil ?_
  refine c_split rfl (fun hc21 => ?_) (fun hc21 => ?_)
  · skip
    refine wp_seq ?_
    refine wp_region_lit ?_
    refine s_val rfl rfl (v_fa fa35_1 rfl rfl) ?_
    refine s_val rfl rfl (v_load1 rfl rfl Try.underlying24 rfl (cx.cell 1 rfl rfl)) ?_
    refine s_val rfl rfl (v_fa fa35_1 rfl rfl) ?_
    refine s_val rfl rfl (v_load1 rfl rfl Try.underlying24 rfl (cx.cell 1 rfl rfl)) ?_
    refine s_val rfl rfl (v_lenSlice rfl rfl Try.underlying24) ?_
    refine s_val rfl rfl (v_subQ rfl rfl rfl (r := (up.length : Int)) (by simp) (by omega) (by omega)) ?_
    refine s_val rfl rfl (v_slHi el24 es24 rfl rfl rfl (by omega) (by simp only [List.length_append, List.length_cons, List.length_nil] at hcap; omega)) ?_
    refine s_val rfl rfl (v_assign rfl rfl) ?_
    refine wpList_nil ?_
    refine wp_seq ?_
    refine wp_region_lit ?_
    refine s_val rfl rfl (v_fa fa35_1 rfl rfl) ?_
    refine s_val rfl rfl (v_load1 rfl rfl Try.underlying24 rfl (cx.cell 1 rfl rfl)) ?_
    refine s_val rfl rfl (v_fa fa35_1 rfl rfl) ?_
    refine s_val rfl rfl (v_load1 rfl rfl Try.underlying24 rfl (cx.cell 1 rfl rfl)) ?_
    refine s_val rfl rfl (v_lenSlice rfl rfl Try.underlying24) ?_
    refine s_val rfl rfl (v_subQ rfl rfl rfl (r := (up.length : Int)) (by simp) (by omega) (by omega)) ?_
    refine s_val rfl rfl (v_ia Try.underlying24 sz112 rfl rfl rfl (by omega) (by simp only [List.length_append, List.length_cons, List.length_nil]; omega)) ?_
    refine s_val rfl rfl (v_load rfl rfl Try.underlying112 rfl sz112 (hrs.up cx.ext) rfl) ?_
    refine s_alloc cx z112 rfl rfl rfl ?_; intro b7 w cx hb7 hw7
    refine s_storeAllG cx 0 rfl rfl rfl rfl rfl rfl sz112 rfl rfl ?_; intro w cx hg3
    replace cx := cx.set0
    refine wpList_nil ?_
    refine wp_seq ?_
    refine wp_region_lit ?_
    refine s_val rfl rfl (v_load rfl rfl Try.underlying33 rfl sz33 (cx.row 3 rfl) hv.len) ?_
    refine s_val rfl rfl (v_move rfl rfl) ?_
    refine s_fn cx (c104 (lsV (ls.eraseIdx i)) up v v' l _ e A w (fun b hb => Nat.lt_of_lt_of_le (hA b hb) cx.ext.size) (AtP.imp (fun _ _ h => h.1) h) hgv hfv (hpi.up cx.ext) hpk.append.1 (repE cw cx hA hv)) Try.func104 rfl rfl rfl rfl rfl rfl ?_; intro q40 w cx hw40 hp40
    obtain ⟨r40, rfl, hr40⟩ := hp40
    have cx40 := cx
    have hO5 := RepV.open hr40
    obtain ⟨qb, qs, qf, rfl, hqb, hqs, hqf⟩ := hO5
    have hO6 := RepL.openA hqs
    obtain ⟨qla, qlc, qlb, qlo, rfl, _, _⟩ := hO6
    have hO7 := RepF.openA hqf
    obtain ⟨qfa, qfc, qfb, qfo, rfl, _, _⟩ := hO7
    refine s_val rfl rfl (v_move rfl rfl) ?_
    refine s_val rfl rfl (v_extract rfl rfl rfl) ?_
    refine s_val rfl rfl (v_extract rfl rfl rfl) ?_
    refine s_alloc cx z33 rfl rfl rfl ?_; intro b8 w cx hb8 hw8
    refine s_storeAllG cx 0 rfl rfl rfl rfl rfl rfl (by rw [hr40.len]; exact sz33) (by rw [hr40.len]; rfl) hr40.one ?_; intro w cx hg4
    replace cx := cx.set0
    refine s_val rfl rfl (v_assign rfl rfl) ?_
    refine wpList_nil ?_
    refine wp_seq ?_
    refine wp_region_lit ?_
    refine s_val rfl rfl (v_load rfl rfl Try.underlying33 rfl sz33 (cx.row 0 rfl) hr40.len) ?_
    refine s_val rfl rfl (v_load rfl rfl Try.underlying112 rfl sz112 (cx.row 1 rfl) rfl) ?_
    refine s_fn cx (c105 (lsV (ls.eraseIdx i)) _ (idxS i) _ (valE cx40 cx hA hr40) hfm) Try.func105 rfl rfl rfl rfl rfl rfl ?_; intro q46 w cx hw46 hp46
    obtain ⟨fk, fe, rfl, hfnd⟩ := hp46
    refine s_val rfl rfl (v_move rfl rfl) ?_
    refine s_val rfl rfl (v_extract rfl rfl rfl) ?_
    refine s_val rfl rfl (v_extract rfl rfl rfl) ?_
    refine s_val rfl rfl (v_assign rfl rfl) ?_
    refine s_val rfl rfl (v_assign rfl rfl) ?_
    refine wpList_nil ?_
    refine wp_seq ?_
    refine wp_block ?_
    refine wp_seq ?_
    refine wp_region_lit ?_
    refine s_val rfl rfl (v_move rfl rfl) ?_
    refine s_val rfl rfl (v_cmp rfl rfl rfl rfl) ?_
    refine s_val rfl rfl (v_move rfl rfl) ?_
    refine s_gval rfl rfl rfl wF (fun hc => v_move rfl (by first | exact gve hc rfl | exact gve (and_l hc) rfl | exact gve (and_l (and_l hc)) rfl | rfl)) ?_
    refine s_gval rfl rfl rfl wF (fun hc => v_cmp rfl (by first | exact gve hc rfl | exact gve (and_l hc) rfl | exact gve (and_l (and_l hc)) rfl | rfl) rfl rfl) ?_
    refine s_val rfl rfl (v_or rfl rfl rfl rfl) ?_
    refine s_val rfl rfl (v_assign rfl rfl) ?_
    refine wpList_nil ?_
    refine c_split rfl (fun hc50 => ?_) (fun hc50 => ?_)
    · skip
      exfalso
      rcases fnd_ls hfnd with rfl | rfl <;> simp at hc50
    refine wp_seq ?_
    refine wp_region_lit ?_
    refine s_val rfl rfl (v_fa fa112_0 rfl rfl) ?_
    refine s_val rfl rfl (v_load1 rfl rfl Try.underlying4 rfl (cx.cell 1 rfl rfl)) ?_
    refine s_val rfl rfl (v_move rfl rfl) ?_
    refine s_gval rfl rfl rfl wT (fun hc => v_fa fa112_2 rfl (by first | exact gve hc rfl | exact gve (and_l hc) rfl | exact gve (and_l (and_l hc)) rfl | rfl)) ?_
    refine s_gval rfl rfl rfl wT (fun hc => v_load1 rfl (by first | exact gve hc rfl | exact gve (and_l hc) rfl | exact gve (and_l (and_l hc)) rfl | rfl) Try.underlying3 rfl (cx.cell 1 rfl rfl)) ?_
    refine s_gval rfl rfl rfl wT (fun hc => v_fa fa33_6 rfl (by first | exact gve hc rfl | exact gve (and_l hc) rfl | exact gve (and_l (and_l hc)) rfl | rfl)) ?_
    refine s_gval rfl rfl rfl wT (fun hc => v_load1 rfl (gve hc rfl) Try.underlying30 rfl (cx.cell 0 rfl rfl)) ?_
    refine s_gval rfl rfl rfl wT (fun hc => v_lenSlice rfl (by first | exact gve hc rfl | exact gve (and_l hc) rfl | exact gve (and_l (and_l hc)) rfl | rfl) Try.underlying30) ?_
    refine s_gval rfl rfl rfl wT (fun hc => v_cmp rfl (by first | exact gve hc rfl | exact gve (and_l hc) rfl | exact gve (and_l (and_l hc)) rfl | rfl) (by first | exact gve hc rfl | exact gve (and_l hc) rfl | exact gve (and_l (and_l hc)) rfl | rfl) rfl) ?_
    refine s_val rfl rfl (v_and rfl rfl rfl rfl) ?_
    refine s_val rfl rfl (v_assign rfl rfl) ?_
    refine wpList_nil ?_
    refine c_split rfl (fun hc58 => ?_) (fun hc58 => ?_)
    · skip
      refine wp_region_lit ?_
      refine s_val rfl rfl (v_load rfl rfl Try.underlying33 rfl sz33 (cx.row 0 rfl) hr40.len) ?_
      refine s_val rfl rfl (v_fa fa112_2 rfl rfl) ?_
      refine s_val rfl rfl (v_load1 rfl rfl Try.underlying3 rfl (cx.cell 1 rfl rfl)) ?_
      refine s_val rfl rfl (v_fa fa35_4 rfl rfl) ?_
      refine s_val rfl rfl (v_load rfl rfl Try.underlying33 rfl sz33 ((cx.row 3 rfl).rv 16 rfl) rfl) ?_
      have cxp := cx
      refine s_fn cx (c106 (lsV (ls.eraseIdx i)) new _ (vrow new.sc bn ln fn) i _ _ FX.lt (fxE cx40 cx hA hr40) (fxE cw cx hA hvn) hfm (show i ≤ (ls.eraseIdx i).length by omega)) Try.func106 rfl rfl rfl rfl rfl rfl ?_; intro q74 w cx hw74 hp74
      obtain ⟨r74, rfl, hr74⟩ := hp74
      replace hr74 : RepV (FX A w0.heap.size w _ []) w (.mk (zk 6) [] ((ls.eraseIdx i).take i ++ new :: (ls.eraseIdx i).drop i) []) r74 := FX.res cxp hw74 cxp.ext.size hr74
      rw [ers_back hi] at hr74
      have cxp := cx
      refine s_storeAllG cx 0 rfl rfl rfl rfl rfl rfl (by rw [hr74.len]; exact sz33) (by rw [hr74.len]; rfl) hr74.one ?_; intro w cx hg10
      replace hr74 := fxSet cxp 0 (o' := .cells r74.toArray 33) rfl hg10 hr74
      replace cx := cx.set0
      refine wpList_nil ?_
      refine wp_seq ?_
      refine wp_region_lit ?_
      refine s_val rfl rfl (v_load rfl rfl Try.underlying33 rfl sz33 (cx.row 4 rfl) hv.len) ?_
      refine s_val rfl rfl (v_move rfl rfl) ?_
      refine s_val rfl rfl (v_load rfl rfl Try.underlying33 rfl sz33 (cx.row 0 rfl) hr74.len) ?_
      have cxp := cx
      refine s_fn cx (c108 (lsV ls) _ up v v' l _ e _ _ FX.lt (AtP.imp (fun _ _ h => h.2) h) hgv hfv (hpi.up cx.ext) (by have := hpk.append.1.1; omega) (fxE cw cx hA hv) hr74) Try.func108 rfl rfl rfl rfl rfl rfl ?_; intro q103 w cx hw103 hp103
      obtain ⟨r103, rfl, hr103⟩ := hp103
      replace hr103 := FX.res cxp hw103 cxp.ext.size hr103
      have cxp := cx
      refine s_storeAllG cx 2 rfl rfl rfl rfl rfl rfl (by rw [hr103.len]; exact sz33) (by rw [hr103.len]; rfl) hr103.one ?_; intro w cx hg13
      replace hr103 := fxSet cxp 2 (o' := .cells r103.toArray 33) rfl hg13 hr103
      refine s_val rfl rfl (v_assign rfl rfl) ?_
      refine wpList_nil ?_
      refine wp_ret ?_
      exact ret_cell2 Try.results71 rfl rfl (cx.at 2 rfl) Try.underlying33 rfl (by rw [hr103.len]; exact sz33) ⟨cx.ext, _, rfl, FX.out hr103⟩
    exfalso
    have hle : decide ((i : Int) ≤ ((ls.eraseIdx i).length : Int)) = true := decide_eq_true (by omega)
    have hc58' : (true && decide ((i : Int) ≤ ((ls.eraseIdx i).length : Int))) = false := hc58
    rw [hle] at hc58'
    cases hc58'
  exfalso
  simp at hc21
set_option maxRecDepth 10000 in
theorem c71insF (new v v' : V) (up : List Stp) (fs : Fs) (key : ByteArray) (t : Nat) (l r : List Value) (e : Nat) (A : Nat → Prop) (w0 : World) (hA : ∀ b, A b → b < w0.heap.size) (hi : fs[t]? = some (key, new)) (hn : (keysOf fs).Nodup) (h : AtP (fun y z => y = mapV (fs.eraseIdx t) ∧ z = mapV fs) up v v') (hpk : POk (up ++ [keyS key])) (hgv : Gok e v) (hfv : Fine v) (hfm : Fine (mapV (fs.eraseIdx t))) (hv : RepV A w0 v l) (hc : chA A w0 ⟨2, up ++ [keyS key], (t : Nat), nulV, new⟩ r) :
    Fc Try.prog 71 [.agg l.toArray, .agg r.toArray] w0 (fun x w' => ∃ r, x = .tuple #[.agg r.toArray, .bool true] ∧ RepV (fun b => A b ∨ Fr w0 w' b) w' v' r) := by
  have hc1 : ∃ ps ro rn, r = .int .i64 2 :: ps :: .int .i64 (t : Nat) :: (ro ++ rn) ∧ PthA A w0 ps (up ++ [keyS key]) ∧ RepV A w0 (nulV) ro ∧ RepV A w0 (new) rn := hc
  obtain ⟨ps, ro, rn, rfl, hpa, hvo, hvn⟩ := hc1
  have hpl := hpk.1
  try simp only [List.length_append, List.length_cons, List.length_nil] at hpl
  have hO1 := RepV.open hvo
  obtain ⟨bo, lo, fo, rfl, _⟩ := hO1
  have hO2 := RepV.open hvn
  obtain ⟨bn, ln, fn, rfl, _⟩ := hO2
  have hpt : Pth w0 ps _ := PthA.mono hA (fun _ _ => rfl) hpa
  have hil := (List.getElem?_eq_some_iff.1 hi).1
  have hel := List.length_eraseIdx_of_lt hil
  have cw := Ctx.start w0
  have hvr := hv.len
  have hro := hvo.len
  have hrn := hvn.len
  have hO3 := hpt.form
  obtain ⟨pa, pc, pb, pof, rfl, hpa2, hget⟩ := hO3
  have hO4 := hpa2 (by simp)
  obtain rfl := hO4
  have hrs : RowAt w0 pb (pof + up.length * 3) (srow (keyS key)) := hget up.length _ (by rw [List.getElem?_append_right (Nat.le_refl _), Nat.sub_self]; rfl)
  have hcap := hpt.cap.2
  have hpi := hpt.init
  refine ret_enter Try.func71 rfl Try.ntmps71 rfl ?_
  have cx := Ctx.start w0
  refine wp_seq ?_
  refine wp_region_lit ?_
  refine s_box cx rfl rfl rfl rfl rfl ?_; intro b2 w cx hb2 hw2
  refine s_box cx rfl rfl rfl rfl rfl ?_; intro b3 w cx hb3 hw3
  refine s_alloc cx z33 rfl rfl rfl ?_; intro b4 w cx hb4 hw4
  refine s_val rfl rfl (v_assign rfl rfl) ?_
  refine wpList_nil ?_
  refine wp_seq ?_
  refine wp_seq ?_
  refine wp_region_lit ?_
  refine s_val rfl rfl (v_fa fa35_0 rfl rfl) ?_
  refine s_val rfl rfl (v_load1 rfl rfl Try.underlying3 rfl (cx.cell 1 rfl rfl)) ?_
  refine s_val rfl rfl (v_cmp rfl rfl rfl rfl) ?_
  refine wpList_nil ?_
  refine c_split rfl (fun hc21 => ?_) (fun hc21 => ?_)
  · skip
    refine wp_seq ?_
    refine wp_region_lit ?_
    refine s_val rfl rfl (v_fa fa35_1 rfl rfl) ?_
    refine s_val rfl rfl (v_load1 rfl rfl Try.underlying24 rfl (cx.cell 1 rfl rfl)) ?_
    refine s_val rfl rfl (v_fa fa35_1 rfl rfl) ?_
    refine s_val rfl rfl (v_load1 rfl rfl Try.underlying24 rfl (cx.cell 1 rfl rfl)) ?_
    refine s_val rfl rfl (v_lenSlice rfl rfl Try.underlying24) ?_
    refine s_val rfl rfl (v_subQ rfl rfl rfl (r := (up.length : Int)) (by simp) (by omega) (by omega)) ?_
    refine s_val rfl rfl (v_slHi el24 es24 rfl rfl rfl (by omega) (by simp only [List.length_append, List.length_cons, List.length_nil] at hcap; omega)) ?_
    refine s_val rfl rfl (v_assign rfl rfl) ?_
    refine wpList_nil ?_
    refine wp_seq ?_
    refine wp_region_lit ?_
    refine s_val rfl rfl (v_fa fa35_1 rfl rfl) ?_
    refine s_val rfl rfl (v_load1 rfl rfl Try.underlying24 rfl (cx.cell 1 rfl rfl)) ?_
    refine s_val rfl rfl (v_fa fa35_1 rfl rfl) ?_
    refine s_val rfl rfl (v_load1 rfl rfl Try.underlying24 rfl (cx.cell 1 rfl rfl)) ?_
    refine s_val rfl rfl (v_lenSlice rfl rfl Try.underlying24) ?_
    refine s_val rfl rfl (v_subQ rfl rfl rfl (r := (up.length : Int)) (by simp) (by omega) (by omega)) ?_
    refine s_val rfl rfl (v_ia Try.underlying24 sz112 rfl rfl rfl (by omega) (by simp only [List.length_append, List.length_cons, List.length_nil]; omega)) ?_
    refine s_val rfl rfl (v_load rfl rfl Try.underlying112 rfl sz112 (hrs.up cx.ext) rfl) ?_
    refine s_alloc cx z112 rfl rfl rfl ?_; intro b7 w cx hb7 hw7
    refine s_storeAllG cx 0 rfl rfl rfl rfl rfl rfl sz112 rfl rfl ?_; intro w cx hg3
    replace cx := cx.set0
    refine wpList_nil ?_
    refine wp_seq ?_
    refine wp_region_lit ?_
    refine s_val rfl rfl (v_load rfl rfl Try.underlying33 rfl sz33 (cx.row 3 rfl) hv.len) ?_
    refine s_val rfl rfl (v_move rfl rfl) ?_
    refine s_fn cx (c104 (mapV (fs.eraseIdx t)) up v v' l _ e A w (fun b hb => Nat.lt_of_lt_of_le (hA b hb) cx.ext.size) (AtP.imp (fun _ _ h => h.1) h) hgv hfv (hpi.up cx.ext) hpk.append.1 (repE cw cx hA hv)) Try.func104 rfl rfl rfl rfl rfl rfl ?_; intro q40 w cx hw40 hp40
    obtain ⟨r40, rfl, hr40⟩ := hp40
    have cx40 := cx
    have hO5 := RepV.open hr40
    obtain ⟨qb, qs, qf, rfl, hqb, hqs, hqf⟩ := hO5
    have hO6 := RepL.openA hqs
    obtain ⟨qla, qlc, qlb, qlo, rfl, _, _⟩ := hO6
    have hO7 := RepF.openA hqf
    obtain ⟨qfa, qfc, qfb, qfo, rfl, _, _⟩ := hO7
    refine s_val rfl rfl (v_move rfl rfl) ?_
    refine s_val rfl rfl (v_extract rfl rfl rfl) ?_
    refine s_val rfl rfl (v_extract rfl rfl rfl) ?_
    refine s_alloc cx z33 rfl rfl rfl ?_; intro b8 w cx hb8 hw8
    refine s_storeAllG cx 0 rfl rfl rfl rfl rfl rfl (by rw [hr40.len]; exact sz33) (by rw [hr40.len]; rfl) hr40.one ?_; intro w cx hg4
    replace cx := cx.set0
    refine s_val rfl rfl (v_assign rfl rfl) ?_
    refine wpList_nil ?_
    refine wp_seq ?_
    refine wp_region_lit ?_
    refine s_val rfl rfl (v_load rfl rfl Try.underlying33 rfl sz33 (cx.row 0 rfl) hr40.len) ?_
    refine s_val rfl rfl (v_load rfl rfl Try.underlying112 rfl sz112 (cx.row 1 rfl) rfl) ?_
    refine s_fn cx (c105 (mapV (fs.eraseIdx t)) _ (keyS key) _ (valE cx40 cx hA hr40) hfm) Try.func105 rfl rfl rfl rfl rfl rfl ?_; intro q46 w cx hw46 hp46
    obtain ⟨fk, fe, rfl, hfnd⟩ := hp46
    refine s_val rfl rfl (v_move rfl rfl) ?_
    refine s_val rfl rfl (v_extract rfl rfl rfl) ?_
    refine s_val rfl rfl (v_extract rfl rfl rfl) ?_
    refine s_val rfl rfl (v_assign rfl rfl) ?_
    refine s_val rfl rfl (v_assign rfl rfl) ?_
    refine wpList_nil ?_
    refine wp_seq ?_
    refine wp_block ?_
    refine wp_seq ?_
    refine wp_region_lit ?_
    refine s_val rfl rfl (v_move rfl rfl) ?_
    refine s_val rfl rfl (v_cmp rfl rfl rfl rfl) ?_
    refine s_val rfl rfl (v_move rfl rfl) ?_
    refine s_gval rfl rfl rfl wF (fun hc => v_move rfl (by first | exact gve hc rfl | exact gve (and_l hc) rfl | exact gve (and_l (and_l hc)) rfl | rfl)) ?_
    refine s_gval rfl rfl rfl wF (fun hc => v_cmp rfl (by first | exact gve hc rfl | exact gve (and_l hc) rfl | exact gve (and_l (and_l hc)) rfl | rfl) rfl rfl) ?_
    refine s_val rfl rfl (v_or rfl rfl rfl rfl) ?_
    refine s_val rfl rfl (v_assign rfl rfl) ?_
    refine wpList_nil ?_
    refine c_split rfl (fun hc50 => ?_) (fun hc50 => ?_)
    · skip
      exfalso
      have hO8 := fnd_new hi hn hfnd
      obtain rfl := hO8
      simp at hc50
    refine wp_seq ?_
    refine wp_region_lit ?_
    refine s_val rfl rfl (v_fa fa112_0 rfl rfl) ?_
    refine s_val rfl rfl (v_load1 rfl rfl Try.underlying4 rfl (cx.cell 1 rfl rfl)) ?_
    refine s_val rfl rfl (v_move rfl rfl) ?_
    refine s_gval rfl rfl rfl wT (fun hc => v_fa fa112_2 rfl (by first | exact gve hc rfl | exact gve (and_l hc) rfl | exact gve (and_l (and_l hc)) rfl | rfl)) ?_
    refine s_gval rfl rfl rfl wT (fun hc => v_load1 rfl (by first | exact gve hc rfl | exact gve (and_l hc) rfl | exact gve (and_l (and_l hc)) rfl | rfl) Try.underlying3 rfl (cx.cell 1 rfl rfl)) ?_
    refine s_gval rfl rfl rfl wT (fun hc => v_fa fa33_6 rfl (by first | exact gve hc rfl | exact gve (and_l hc) rfl | exact gve (and_l (and_l hc)) rfl | rfl)) ?_
    refine s_gval rfl rfl rfl wT (fun hc => v_load1 rfl (gve hc rfl) Try.underlying30 rfl (cx.cell 0 rfl rfl)) ?_
    refine s_gval rfl rfl rfl wT (fun hc => v_lenSlice rfl (by first | exact gve hc rfl | exact gve (and_l hc) rfl | exact gve (and_l (and_l hc)) rfl | rfl) Try.underlying30) ?_
    refine s_gval rfl rfl rfl wT (fun hc => v_cmp rfl (by first | exact gve hc rfl | exact gve (and_l hc) rfl | exact gve (and_l (and_l hc)) rfl | rfl) (by first | exact gve hc rfl | exact gve (and_l hc) rfl | exact gve (and_l (and_l hc)) rfl | rfl) rfl) ?_
    refine s_val rfl rfl (v_and rfl rfl rfl rfl) ?_
    refine s_val rfl rfl (v_assign rfl rfl) ?_
    refine wpList_nil ?_
    refine c_split rfl (fun hc58 => ?_) (fun hc58 => ?_)
    · skip
      exfalso
      cases hc58
    refine wp_seq ?_
    refine wp_region_lit ?_
    refine s_val rfl rfl (v_fa fa112_0 rfl rfl) ?_
    refine s_val rfl rfl (v_load1 rfl rfl Try.underlying4 rfl (cx.cell 1 rfl rfl)) ?_
    refine s_val rfl rfl (v_not rfl rfl) ?_
    refine s_val rfl rfl (v_move rfl rfl) ?_
    refine s_gval rfl rfl rfl wT (fun hc => v_move rfl (by first | exact gve hc rfl | exact gve (and_l hc) rfl | exact gve (and_l (and_l hc)) rfl | rfl)) ?_
    refine s_gval rfl rfl rfl wT (fun hc => v_cmp rfl (by first | exact gve hc rfl | exact gve (and_l hc) rfl | exact gve (and_l (and_l hc)) rfl | rfl) rfl rfl) ?_
    refine s_val rfl rfl (v_and rfl rfl rfl rfl) ?_
    refine s_val rfl rfl (v_move rfl rfl) ?_
    refine s_gval rfl rfl rfl wT (fun hc => v_fa fa35_2 rfl (by first | exact gve hc rfl | exact gve (and_l hc) rfl | exact gve (and_l (and_l hc)) rfl | rfl)) ?_
    refine s_gval rfl rfl rfl wT (fun hc => v_load1 rfl (by first | exact gve hc rfl | exact gve (and_l hc) rfl | exact gve (and_l (and_l hc)) rfl | rfl) Try.underlying3 rfl (cx.cell 3 rfl rfl)) ?_
    refine s_gval rfl rfl rfl wT (fun hc => v_fa fa33_7 rfl (by first | exact gve hc rfl | exact gve (and_l hc) rfl | exact gve (and_l (and_l hc)) rfl | rfl)) ?_
    refine s_gval rfl rfl rfl wT (fun hc => v_load1 rfl (gve hc rfl) Try.underlying31 rfl (cx.cell 0 rfl rfl)) ?_
    refine s_gval rfl rfl rfl wT (fun hc => v_lenSlice rfl (by first | exact gve hc rfl | exact gve (and_l hc) rfl | exact gve (and_l (and_l hc)) rfl | rfl) Try.underlying31) ?_
    refine s_gval rfl rfl rfl wT (fun hc => v_cmp rfl (by first | exact gve hc rfl | exact gve (and_l hc) rfl | exact gve (and_l (and_l hc)) rfl | rfl) (by first | exact gve hc rfl | exact gve (and_l hc) rfl | exact gve (and_l (and_l hc)) rfl | rfl) rfl) ?_
    refine s_val rfl rfl (v_and rfl rfl rfl rfl) ?_
    refine s_val rfl rfl (v_assign rfl rfl) ?_
    refine wpList_nil ?_
    refine c_split rfl (fun hc75 => ?_) (fun hc75 => ?_)
    · skip
      refine wp_region_lit ?_
      refine s_val rfl rfl (v_load rfl rfl Try.underlying33 rfl sz33 (cx.row 0 rfl) hr40.len) ?_
      refine s_val rfl rfl (v_fa fa35_2 rfl rfl) ?_
      refine s_val rfl rfl (v_load1 rfl rfl Try.underlying3 rfl (cx.cell 3 rfl rfl)) ?_
      refine s_val rfl rfl (v_fa fa112_1 rfl rfl) ?_
      refine s_val rfl rfl (v_load1 rfl rfl Try.underlying9 rfl (cx.cell 1 rfl rfl)) ?_
      refine s_val rfl rfl (v_fa fa35_4 rfl rfl) ?_
      refine s_val rfl rfl (v_load rfl rfl Try.underlying33 rfl sz33 ((cx.row 3 rfl).rv 16 rfl) rfl) ?_
      refine s_val rfl rfl (v_build (bd77 _ _ _ _ _) rfl rfl) ?_
      have cxp := cx
      refine s_fn cx (c107 key (mapV (fs.eraseIdx t)) new _ (vrow new.sc bn ln fn) t _ _ FX.lt (fxE cx40 cx hA hr40) (fxE cw cx hA hvn) hfm (show t ≤ (fs.eraseIdx t).length by omega)) Try.func107 rfl rfl rfl rfl rfl rfl ?_; intro q99 w cx hw99 hp99
      obtain ⟨r99, rfl, hr99⟩ := hp99
      replace hr99 : RepV (FX A w0.heap.size w _ []) w (.mk (zk 7) [] [] ((fs.eraseIdx t).take t ++ (key, new) :: (fs.eraseIdx t).drop t)) r99 := FX.res cxp hw99 cxp.ext.size hr99
      rw [ers_back hi] at hr99
      have cxp := cx
      refine s_storeAllG cx 0 rfl rfl rfl rfl rfl rfl (by rw [hr99.len]; exact sz33) (by rw [hr99.len]; rfl) hr99.one ?_; intro w cx hg12
      replace hr99 := fxSet cxp 0 (o' := .cells r99.toArray 33) rfl hg12 hr99
      replace cx := cx.set0
      refine wpList_nil ?_
      refine wp_seq ?_
      refine wp_region_lit ?_
      refine s_val rfl rfl (v_load rfl rfl Try.underlying33 rfl sz33 (cx.row 4 rfl) hv.len) ?_
      refine s_val rfl rfl (v_move rfl rfl) ?_
      refine s_val rfl rfl (v_load rfl rfl Try.underlying33 rfl sz33 (cx.row 0 rfl) hr99.len) ?_
      have cxp := cx
      refine s_fn cx (c108 (mapV fs) _ up v v' l _ e _ _ FX.lt (AtP.imp (fun _ _ h => h.2) h) hgv hfv (hpi.up cx.ext) (by have := hpk.append.1.1; omega) (fxE cw cx hA hv) hr99) Try.func108 rfl rfl rfl rfl rfl rfl ?_; intro q103 w cx hw103 hp103
      obtain ⟨r103, rfl, hr103⟩ := hp103
      replace hr103 := FX.res cxp hw103 cxp.ext.size hr103
      have cxp := cx
      refine s_storeAllG cx 2 rfl rfl rfl rfl rfl rfl (by rw [hr103.len]; exact sz33) (by rw [hr103.len]; rfl) hr103.one ?_; intro w cx hg13
      replace hr103 := fxSet cxp 2 (o' := .cells r103.toArray 33) rfl hg13 hr103
      refine s_val rfl rfl (v_assign rfl rfl) ?_
      refine wpList_nil ?_
      refine wp_ret ?_
      exact ret_cell2 Try.results71 rfl rfl (cx.at 2 rfl) Try.underlying33 rfl (by rw [hr103.len]; exact sz33) ⟨cx.ext, _, rfl, FX.out hr103⟩
    exfalso
    have hO9 := fnd_new hi hn hfnd
    obtain rfl := hO9
    have hle : decide (((t : Nat) : Int) ≤ ((fs.eraseIdx t).length : Int)) = true := decide_eq_true (by omega)
    have hc75' : (true && decide (((t : Nat) : Int) ≤ ((fs.eraseIdx t).length : Int))) = false := hc75
    rw [hle] at hc75'
    cases hc75'
  exfalso
  simp at hc21
end Go.Proofs.Ytmkihcdcgkdilaa
end
section
namespace Go.Proofs.Ytmkihcdcgkdilaa
open Go Go.Dk Go.RowKit
set_option linter.unusedSimpArgs false
set_option linter.unusedVariables false
attribute [local irreducible] Go.wpList Go.Code.wp Go.bodyPost Go.wpStill
theorem at_fine {m m' : V} {p : List Stp} {v v' : V} (h : AtP (fun y z => y = m ∧ z = m') p v v') : Fine v → Fine m := by
  induction h with
  | here h => obtain ⟨rfl, rfl⟩ := h; exact id
  | elem l i x x' hi h ih => exact fun hf => ih (hf.elem (List.mem_of_getElem? hi))
  | field fs i k x x' hi h ih => exact fun hf => ih (hf.field (List.mem_of_getElem? hi)).2
set_option maxRecDepth 10000 in
theorem c71rem (old m m' v v' v2 : V) (up : List Stp) (s : Stp) (pos : Int) (k : Nat) (l r : List Value) (e : Nat) (A : Nat → Prop) (w0 : World) (hA : ∀ b, A b → b < w0.heap.size) (h : AtP (fun y z => y = m ∧ z = m') up v v') (ho : AtP (fun y _ => y = old) (up ++ [s]) v v2) (hst : Pst s k old old m m) (hwo : V.mk (zk m.sc.kind) [] (m.list.eraseIdx k) (m.fields.eraseIdx k) = m') (hkp : s.byIndex = false → (k : Int) = pos) (hnd : (keysOf m.fields).Nodup) (hpk : POk (up ++ [s])) (hgv : Gok e v) (hfv : Fine v) (hfo : Fine old) (hfm : Fine m) (hv : RepV A w0 v l) (hc : chA A w0 ⟨3, up ++ [s], pos, old, nulV⟩ r) :
    Fc Try.prog 71 [.agg l.toArray, .agg r.toArray] w0 (fun x w' => ∃ r, x = .tuple #[.agg r.toArray, .bool true] ∧ RepV (fun b => A b ∨ Fr w0 w' b) w' v' r) := by
  have hc1 : ∃ ps ro rn, r = .int .i64 3 :: ps :: .int .i64 pos :: (ro ++ rn) ∧ PthA A w0 ps (up ++ [s]) ∧ RepV A w0 (old) ro ∧ RepV A w0 (nulV) rn := hc
  obtain ⟨ps, ro, rn, rfl, hpa, hvo, hvn⟩ := hc1
  have hpl := hpk.1
  try simp only [List.length_append, List.length_cons, List.length_nil] at hpl
  have hO1 := RepV.open hvo
  obtain ⟨bo, lo, fo, rfl, _⟩ := hO1
  have hO2 := RepV.open hvn
  obtain ⟨bn, ln, fn, rfl, _⟩ := hO2
  have hpt : Pth w0 ps _ := PthA.mono hA (fun _ _ => rfl) hpa
  have cw := Ctx.start w0
  have hvr := hv.len
  have hro := hvo.len
  have hrn := hvn.len
  have hO3 := hpt.form
  obtain ⟨pa, pc, pb, pof, rfl, hpa2, hget⟩ := hO3
  have hO4 := hpa2 (by simp)
  obtain rfl := hO4
  have hrs : RowAt w0 pb (pof + up.length * 3) (srow s) := hget up.length _ (by rw [List.getElem?_append_right (Nat.le_refl _), Nat.sub_self]; rfl)
  have hcap := hpt.cap.2
  have hpi := hpt.init
  refine ret_enter Try.func71 rfl Try.ntmps71 rfl ?_
  have cx := Ctx.start w0
  refine wp_seq ?_
  refine wp_region_lit ?_
  refine s_box cx rfl rfl rfl rfl rfl ?_; intro b2 w cx hb2 hw2
  refine s_box cx rfl rfl rfl rfl rfl ?_; intro b3 w cx hb3 hw3
  refine s_alloc cx z33 rfl rfl rfl ?_; intro b4 w cx hb4 hw4
  refine s_val rfl rfl (v_assign rfl rfl) ?_
  refine wpList_nil ?_
  refine wp_seq ?_
  refine wp_seq ?_
  refine wp_region_lit ?_
  refine s_val rfl rfl (v_fa fa35_0 rfl rfl) ?_
  refine s_val rfl rfl (v_load1 rfl rfl Try.underlying3 rfl (cx.cell 1 rfl rfl)) ?_
  refine s_val rfl rfl (v_cmp rfl rfl rfl rfl) ?_
  refine wpList_nil ?_
  refine c_split rfl (fun hc21 => ?_) (fun hc21 => ?_)
  · skip
    exfalso
    simp at hc21
  refine wp_skip ?_
  refine wp_seq ?_
  refine wp_region_lit ?_
  refine s_val rfl rfl (v_load rfl rfl Try.underlying33 rfl sz33 (cx.row 2 rfl) hv.len) ?_
  refine s_val rfl rfl (v_fa fa35_1 rfl rfl) ?_
  refine s_val rfl rfl (v_load1 rfl rfl Try.underlying24 rfl (cx.cell 1 rfl rfl)) ?_
  refine s_fn cx (c104 old (up ++ [s]) v v2 l _ e A w (fun b hb => Nat.lt_of_lt_of_le (hA b hb) cx.ext.size) ho hgv hfv (hpt.up cx.ext) hpk (repE cw cx hA hv)) Try.func104 rfl rfl rfl rfl rfl rfl ?_; intro q108 w cx hw108 hp108
  obtain ⟨r108, rfl, hr108⟩ := hp108
  have cx108 := cx
  refine s_val rfl rfl (v_move rfl rfl) ?_
  refine s_val rfl rfl (v_extract rfl rfl rfl) ?_
  refine s_val rfl rfl (v_extract rfl rfl rfl) ?_
  refine s_alloc cx z33 rfl rfl rfl ?_; intro b12 w cx hb12 hw12
  refine s_storeAllG cx 0 rfl rfl rfl rfl rfl rfl (by rw [hr108.len]; exact sz33) (by rw [hr108.len]; rfl) hr108.one ?_; intro w cx hg14
  replace cx := cx.set0
  refine s_val rfl rfl (v_assign rfl rfl) ?_
  refine wpList_nil ?_
  refine wp_seq ?_
  refine wp_seq ?_
  refine wp_region_lit ?_
  refine s_val rfl rfl (v_move rfl rfl) ?_
  refine s_val rfl rfl (v_cmp rfl rfl rfl rfl) ?_
  refine s_val rfl rfl (v_move rfl rfl) ?_
  refine s_gval rfl rfl rfl wF (fun hc => v_load rfl rfl Try.underlying33 rfl sz33 (cx.row 0 rfl) hr108.len) ?_
  refine s_gval rfl rfl rfl wF (fun hc => v_fa fa35_3 rfl (by first | exact gve hc rfl | exact gve (and_l hc) rfl | exact gve (and_l (and_l hc)) rfl | rfl)) ?_
  refine s_gval rfl rfl rfl wF (fun hc => v_load rfl (gve hc rfl) Try.underlying33 rfl sz33 ((cx.row 2 rfl).rv 3 rfl) rfl) ?_
  refine s_gfnB cx rfl rfl rfl wF (fun hc => c27 old old r108 (vrow old.sc bo lo fo) _ hfo hfo (valE cx108 cx hA hr108) (valE cw cx hA hvo)) Try.func27 rfl rfl rfl (fun hc => cons_eq (gve hc rfl) (cons_eq (gve hc rfl) rfl)) ?_; intro q117 w cx hw117 hp117
  refine s_gval rfl rfl rfl wF (fun hc => v_not rfl (by first | exact gve hc rfl | exact gve (and_l hc) rfl | exact gve (and_l (and_l hc)) rfl | rfl)) ?_
  refine s_val rfl rfl (v_or rfl rfl rfl rfl) ?_
  refine wpList_nil ?_
  refine c_split rfl (fun hc119 => ?_) (fun hc119 => ?_)
  · skip
    exfalso
    rw [(hp117 rfl).2 rfl] at hc119
    cases hc119
  refine wp_skip ?_
  refine wp_seq ?_
  refine wp_seq ?_
  refine wp_region_lit ?_
  refine s_val rfl rfl (v_fa fa35_0 rfl rfl) ?_
  refine s_val rfl rfl (v_load1 rfl rfl Try.underlying3 rfl (cx.cell 2 rfl rfl)) ?_
  refine wpList_nil ?_
  refine wp_block ?_
  refine wp_seq ?_
  refine wp_region_lit ?_
  refine s_val rfl rfl (v_cmp rfl rfl rfl rfl) ?_
  refine s_val rfl rfl (v_assign rfl rfl) ?_
  refine wpList_nil ?_
  refine c_split rfl (fun hc123 => ?_) (fun hc123 => ?_)
  · skip
    exfalso
    simp at hc123
  refine wp_seq ?_
  refine wp_region_lit ?_
  refine s_val rfl rfl (v_cmp rfl rfl rfl rfl) ?_
  refine s_val rfl rfl (v_assign rfl rfl) ?_
  refine wpList_nil ?_
  refine c_split rfl (fun hc131 => ?_) (fun hc131 => ?_)
  · skip
    refine wp_seq ?_
    refine wp_region_lit ?_
    refine s_val rfl rfl (v_fa fa35_1 rfl rfl) ?_
    refine s_val rfl rfl (v_load1 rfl rfl Try.underlying24 rfl (cx.cell 2 rfl rfl)) ?_
    refine s_val rfl rfl (v_fa fa35_1 rfl rfl) ?_
    refine s_val rfl rfl (v_load1 rfl rfl Try.underlying24 rfl (cx.cell 2 rfl rfl)) ?_
    refine s_val rfl rfl (v_lenSlice rfl rfl Try.underlying24) ?_
    refine s_val rfl rfl (v_subQ rfl rfl rfl (r := (up.length : Int)) (by simp) (by omega) (by omega)) ?_
    refine s_val rfl rfl (v_slHi el24 es24 rfl rfl rfl (by omega) (by simp only [List.length_append, List.length_cons, List.length_nil] at hcap; omega)) ?_
    refine s_val rfl rfl (v_assign rfl rfl) ?_
    refine wpList_nil ?_
    refine wp_seq ?_
    refine wp_region_lit ?_
    refine s_val rfl rfl (v_load rfl rfl Try.underlying33 rfl sz33 (cx.row 3 rfl) hv.len) ?_
    refine s_val rfl rfl (v_move rfl rfl) ?_
    refine s_fn cx (c104 m up v v' l _ e A w (fun b hb => Nat.lt_of_lt_of_le (hA b hb) cx.ext.size) (AtP.imp (fun _ _ h => h.1) h) hgv hfv (hpi.up cx.ext) hpk.append.1 (repE cw cx hA hv)) Try.func104 rfl rfl rfl rfl rfl rfl ?_; intro q143 w cx hw143 hp143
    obtain ⟨r143, rfl, hr143⟩ := hp143
    have cx143 := cx
    refine s_val rfl rfl (v_move rfl rfl) ?_
    refine s_val rfl rfl (v_extract rfl rfl rfl) ?_
    refine s_val rfl rfl (v_extract rfl rfl rfl) ?_
    refine s_alloc cx z33 rfl rfl rfl ?_; intro b15 w cx hb15 hw15
    refine s_storeAllG cx 0 rfl rfl rfl rfl rfl rfl (by rw [hr143.len]; exact sz33) (by rw [hr143.len]; rfl) hr143.one ?_; intro w cx hg22
    replace cx := cx.set0
    refine s_val rfl rfl (v_assign rfl rfl) ?_
    refine wpList_nil ?_
    refine wp_seq ?_
    refine w_quiet cx mixed (by kernel_rfl) ?_
    refine q_val rfl rfl (fun w cx hwQ => v_load rfl rfl Try.underlying33 rfl sz33 (cx.row 0 rfl) hr143.len) ?_
    refine q_val rfl rfl (fun w cx hwQ => v_fa fa35_1 rfl rfl) ?_
    refine q_val rfl rfl (fun w cx hwQ => v_load1 rfl rfl Try.underlying24 rfl (cx.cell 3 rfl rfl)) ?_
    refine q_val rfl rfl (fun w cx hwQ => v_fa fa35_1 rfl rfl) ?_
    refine q_val rfl rfl (fun w cx hwQ => v_load1 rfl rfl Try.underlying24 rfl (cx.cell 3 rfl rfl)) ?_
    refine q_val rfl rfl (fun w cx hwQ => v_lenSlice rfl rfl Try.underlying24) ?_
    refine q_val rfl rfl (fun w cx hwQ => v_subQ rfl rfl rfl (r := (up.length : Int)) (by simp) (by omega) (by omega)) ?_
    refine q_val rfl rfl (fun w cx hwQ => v_ia Try.underlying24 sz112 rfl rfl rfl (by omega) (by simp only [List.length_append, List.length_cons, List.length_nil]; omega)) ?_
    refine q_val rfl rfl (fun w cx hwQ => v_load rfl rfl Try.underlying112 rfl sz112 (hrs.up cx.ext) rfl) ?_
    refine q_call rfl rfl (runs_fn Try.func105 rfl rfl rfl rfl) (fun w cx hwQ => c105e hst hnd r143 w (valE cx143 cx hA hr143) hfm) ?_
    refine q_val rfl rfl (fun w cx hwQ => v_move rfl rfl) ?_
    refine q_val rfl rfl (fun w cx hwQ => v_extract rfl rfl rfl) ?_
    refine q_val rfl rfl (fun w cx hwQ => v_extract rfl rfl rfl) ?_
    refine q_val rfl rfl (fun w cx hwQ => v_assign rfl rfl) ?_
    refine q_val rfl rfl (fun w cx hwQ => v_assign rfl rfl) ?_
    refine q_nil ?_; rintro w ⟨cx, hwQ23⟩
    refine wp_seq ?_
    refine wp_seq ?_
    refine wp_region_lit ?_
    refine s_val rfl rfl (v_fa fa35_1 rfl rfl) ?_
    refine s_val rfl rfl (v_load1 rfl rfl Try.underlying24 rfl (cx.cell 3 rfl rfl)) ?_
    refine s_fnB cx (c109 (up ++ [s]) _ _ (hpt.up cx.ext) (by have := hpk.1; omega)) Try.func109 rfl rfl rfl rfl rfl rfl ?_; intro q161 w cx hw161 hp161
    refine s_val rfl rfl (v_move rfl rfl) ?_
    refine s_gval rfl rfl rfl wT (fun hc => v_move rfl (by first | exact gve hc rfl | exact gve (and_l hc) rfl | exact gve (and_l (and_l hc)) rfl | rfl)) ?_
    refine s_gval rfl rfl rfl wT (fun hc => v_fa fa35_2 rfl (by first | exact gve hc rfl | exact gve (and_l hc) rfl | exact gve (and_l (and_l hc)) rfl | rfl)) ?_
    refine s_gval rfl rfl rfl wT (fun hc => v_load1 rfl (by first | exact gve hc rfl | exact gve (and_l hc) rfl | exact gve (and_l (and_l hc)) rfl | rfl) Try.underlying3 rfl (cx.cell 3 rfl rfl)) ?_
    refine s_gval rfl rfl rfl wT (fun hc => v_cmp rfl (by first | exact gve hc rfl | exact gve (and_l hc) rfl | exact gve (and_l (and_l hc)) rfl | rfl) (by first | exact gve hc rfl | exact gve (and_l hc) rfl | exact gve (and_l (and_l hc)) rfl | rfl) rfl) ?_
    refine s_val rfl rfl (v_and rfl rfl rfl rfl) ?_
    refine wpList_nil ?_
    refine c_split rfl (fun hc167 => ?_) (fun hc167 => ?_)
    · skip
      exfalso
      rw [Bool.and_eq_true, bne_iff_ne] at hc167
      obtain ⟨h1, h2⟩ := hc167
      rw [hp161] at h1
      have h3 : (up ++ [s]).getLast? = some s := by simp
      rw [h3] at h1
      exact h2 (hkp (by simpa using h1))
    refine wp_skip ?_
    refine wp_seq ?_
    refine w_ord cx (cx.pick2 0 4 rfl rfl rfl) mixed [(0, 169), (1, 170), (2, 171), (3, 172)] #[true, true, true, true, false, false, false, false] (by kernel_rfl) (by kernel_rfl) (by kernel_rfl) (by kernel_rfl) ?_
    refine pu_one rfl (wnt_none rfl) (fun w cx => v_load rfl rfl Try.underlying33 rfl sz33 (cx.row 1 rfl) hv.len) ?_
    refine pu_one rfl (wnt_none rfl) (fun w cx => v_move rfl rfl) ?_
    refine pu_one rfl (wnt_none rfl) (fun w cx => v_load rfl rfl Try.underlying33 rfl sz33 (cx.row 0 rfl) hr143.len) ?_
    refine pu_one rfl (wnt_none rfl) (fun w cx => v_move rfl rfl) ?_
    refine pu_nil ?_; intro w cx hwD26
    refine x_one (i := 4) (by kernel_rfl) rfl ?_
    have cxp := cx
    refine s_fn cx (c110 m r143 k _ _ FX.lt (fxE cx143 cx hA hr143) hfm) Try.func110 rfl rfl rfl rfl rfl rfl ?_; intro q173 w cx hw173 hp173
    obtain ⟨r173, rfl, hr173⟩ := hp173
    rw [hwo] at hr173
    replace hr173 := FX.res cxp hw173 cxp.ext.size hr173
    refine x_next ⟨.inl (cx.pick2 0 4 rfl rfl rfl), ?_⟩
    refine x_one (i := 5) (by kernel_rfl) rfl ?_
    have cxp := cx
    refine s_fn cx (c108 m' r173 up v v' l _ e _ _ FX.lt (AtP.imp (fun _ _ h => h.2) h) hgv hfv (hpi.up cx.ext) (by have := hpk.append.1.1; omega) (fxE cw cx hA hv) hr173) Try.func108 rfl rfl rfl rfl rfl rfl ?_; intro q174 w cx hw174 hp174
    obtain ⟨r174, rfl, hr174⟩ := hp174
    replace hr174 := FX.res cxp hw174 cxp.ext.size hr174
    refine x_next ⟨.inr (by kernel_rfl), ?_⟩
    refine x_one (i := 6) (by kernel_rfl) rfl ?_
    have cxp := cx
    refine s_storeAllG cx 2 rfl rfl rfl rfl rfl rfl (by rw [hr174.len]; exact sz33) (by rw [hr174.len]; rfl) hr174.one ?_; intro w cx hg26
    replace hr174 := fxSet cxp 2 (o' := .cells r174.toArray 33) rfl hg26 hr174
    refine x_next ⟨.inr (by kernel_rfl), ?_⟩
    refine x_one (i := 7) (by kernel_rfl) rfl ?_
    refine s_val rfl rfl (v_assign rfl rfl) ?_
    refine x_next ⟨.inr (by kernel_rfl), ?_⟩
    refine x_done (by kernel_rfl) ?_
    refine wp_ret ?_
    exact ret_cell2 Try.results71 rfl rfl (cx.at 2 rfl) Try.underlying33 rfl (by rw [hr174.len]; exact sz33) ⟨cx.ext, _, rfl, FX.out hr174⟩
  exfalso
  simp at hc131
end Go.Proofs.Ytmkihcdcgkdilaa
end
section
namespace Go.Proofs.Ytmkihcdcgkdilaa
open Go Go.Dk Go.RowKit
set_option linter.unusedSimpArgs false
set_option linter.unusedVariables false
attribute [local irreducible] Go.wpList Go.Code.wp Go.bodyPost Go.wpStill
theorem set_self {α : Type} {l : List α} {i : Nat} {x : α} (hi : l[i]? = some x) : l.set i x = l := by
  obtain ⟨h, rfl⟩ := List.getElem?_eq_some_iff.1 hi
  exact List.set_getElem_self h
theorem c71 (c : Ch) (v v' : V) (l r : List Value) (e : Nat) (A : Nat → Prop) (w0 : World) (hA : ∀ b, A b → b < w0.heap.size) (h : StpC c v v') (hpk : POk c.path) (hgv : Gok e v) (hfv : Fine v) (hfo : Fine c.old) (hv : RepV A w0 v l) (hc : chA A w0 c r) :
    Fc Try.prog 71 [.agg l.toArray, .agg r.toArray] w0 (fun x w' => ∃ r, x = .tuple #[.agg r.toArray, .bool true] ∧ RepV (fun b => A b ∨ Fr w0 w' b) w' v' r) := by
  cases h with
  | rep p old new v v' h => exact c71rep p old new v v' l r e A w0 hA h hpk hgv hfv hfo hv hc
  | rem up s pos old v v' h =>
    obtain ⟨m, m', hR, h'⟩ := at_ex h
    have hfm := at_fine h' hfv
    cases hR with
    | elem ls i hi =>
      obtain ⟨v2, h2⟩ := AtP.snoc h' (AtP.elem (R := fun y _ => y = old) ls i old old hi (.here rfl))
      exact c71rem old (lsV ls) _ v v' v2 up (idxS i) 0 i l r e A w0 hA h' h2 (.inl ⟨ls, rfl, rfl, hi, by rw [set_self hi]⟩) rfl (fun h => by cases h) List.nodup_nil hpk hgv hfv hfo hfm hv hc
    | field fs t k hi hn =>
      obtain ⟨v2, h2⟩ := AtP.snoc h' (AtP.field (R := fun y _ => y = old) fs t k old old hi (.here rfl))
      exact c71rem old (mapV fs) _ v v' v2 up (keyS k) t t l r e A w0 hA h' h2 (.inr ⟨fs, k, rfl, rfl, hi, by rw [set_self hi]⟩) rfl (fun _ => rfl) hn hpk hgv hfv hfo hfm hv hc
  | ins up s pos new v v' h =>
    obtain ⟨m, m', hR, h'⟩ := at_ex h
    have hfm := at_fine h' hfv
    cases hR with
    | elem ls i hi => exact c71insE new v v' up ls i l r e A w0 hA hi h' hpk hgv hfv hfm hv hc
    | field fs t k hi hn => exact c71insF new v v' up fs k t l r e A w0 hA hi hn h' hpk hgv hfv hfm hv hc
end Go.Proofs.Ytmkihcdcgkdilaa
end
section
set_option linter.unusedVariables false
set_option linter.unusedSimpArgs false
namespace Go.Dk
open Go Go.RowKit
theorem szL_td (d : Nat) (l : List V) (i : Nat) : szL d (l.take i) + szL d (l.drop i) = szL d l := by
  conv => rhs; rw [← List.take_append_drop i l, szL_append]
theorem szL_drop {d : Nat} {l : List V} {i : Nat} (hi : i < l.length) : szL d (l.drop i) = tsz d l[i] + szL d (l.drop (i + 1)) := by
  rw [List.drop_eq_getElem_cons hi, szL_cons]
theorem szL_take {d : Nat} {l : List V} {i : Nat} (hi : i < l.length) : szL d (l.take (i + 1)) = szL d (l.take i) + tsz d l[i] := by
  rw [List.take_add_one, List.getElem?_eq_getElem hi, szL_append]; simp [szL]
theorem getD_at' {l : List V} {i : Nat} (hi : i < l.length) : l.getD i nulV = l[i] := by rw [List.getD, List.getElem?_eq_getElem hi]; rfl
structure Sl (d : Nat) (a b : List V) (i j : Nat) (done : List V) : Prop where
  len : done.length = j
  ok : ∀ v ∈ done, Gok d v
  sz : szL d done ≤ szL d (a.take i) + szL d (b.take j)
  eq : done.map canon = (b.take j).map canon
def Btw (E : V → V → Bool) (G : V → Prop) (d : Nat) : Prop := ∀ (q : List Stp) (C' : V → V) (x y : V), Ctp q C' → (∀ m, Gok d m → tsz d m ≤ tsz d x + tsz d y → G (C' m)) → Gok d x → Gok d y →
  ∃ z, Chn G (btw E d q x y) (C' x) (C' z) ∧ Gok d z ∧ tsz d z ≤ tsz d x + tsz d y ∧ canon z = canon y
section
variable {E : V → V → Bool} {G : V → Prop} {d : Nat} {p : List Stp} {C : V → V} {a b : List V}
theorem gp1_chn (ih : Btw E G d) (hC : Ctp p C) (hG : ∀ l : List V, (∀ x ∈ l, Gok d x) → szL d l ≤ szL d a + szL d b → G (C (lsV l))) (ha : ∀ x ∈ a, Gok d x) (hb : ∀ x ∈ b, Gok d x) {i j : Nat} {done : List V} (hs : Sl d a b i j done) :
    ∀ s, i + s ≤ a.length → j + s ≤ b.length → ∃ done', Chn G (gp1 (btw E d) p a b i j s) (C (lsV (done ++ a.drop i))) (C (lsV (done' ++ a.drop (i + s)))) ∧ Sl d a b (i + s) (j + s) done'
  | 0, _, _ => ⟨done, Chn.nil _, hs⟩
  | s + 1, h1, h2 => by
    obtain ⟨dn, hch, hst⟩ := gp1_chn ih hC hG ha hb hs s (by omega) (by omega)
    have hi : i + s < a.length := by omega
    have hj : j + s < b.length := by omega
    have hgb : ∀ m, Gok d m → tsz d m ≤ tsz d a[i + s] + tsz d b[j + s] → G (C (lsV (dn ++ m :: a.drop (i + s + 1)))) := fun m hm hms => by
      refine hG _ (fun x hx => ?_) ?_
      · rcases List.mem_append.1 hx with hx | hx
        · exact hst.ok x hx
        · rcases List.mem_cons.1 hx with rfl | hx
          · exact hm
          · exact ha x (List.mem_of_mem_drop hx)
      · have e1 := hst.sz
        have e2 := szL_td d a (i + s)
        have e3 := szL_td d b (j + s)
        rw [szL_drop hi] at e2
        rw [szL_drop hj] at e3
        rw [szL_append, szL_cons]
        omega
    obtain ⟨z, hz1, hz2, hz3, hz4⟩ := ih (p ++ [idxS dn.length]) (fun m => C (lsV (dn ++ m :: a.drop (i + s + 1)))) a[i + s] b[j + s] (hC.elem _ _) hgb (ha _ (List.getElem_mem _)) (hb _ (List.getElem_mem _))
    refine ⟨dn ++ [z], ?_, ?_⟩
    · rw [gp1_succ, getD_at' hi, getD_at' hj]
      refine hch.append (hz1.cast (by rw [hst.len]) ?_ ?_)
      · rw [List.drop_eq_getElem_cons hi]
      · rw [List.append_assoc]; rfl
    · refine ⟨by rw [List.length_append, hst.len]; simp; omega, fun v hv => ?_, ?_, ?_⟩
      · rcases List.mem_append.1 hv with hv | hv
        · exact hst.ok v hv
        · obtain rfl : v = z := by simpa using hv
          exact hz2
      · have e1 := hst.sz
        rw [← Nat.add_assoc, ← Nat.add_assoc, szL_take hi, szL_take hj, szL_append]
        have : szL d [z] = tsz d z := by simp [szL]
        omega
      · rw [← Nat.add_assoc, List.take_add_one, List.getElem?_eq_getElem hj, List.map_append, List.map_append, hst.eq]
        simp [hz4]
theorem gp2_chn (hC : Ctp p C) (hG : ∀ l : List V, (∀ x ∈ l, Gok d x) → szL d l ≤ szL d a + szL d b → G (C (lsV l))) (ha : ∀ x ∈ a, Gok d x) {i j M : Nat} {done : List V} (hs : Sl d a b (i + M) (j + M) done) :
    ∀ s, i + M + s ≤ a.length → Chn G (gp2 p a i j M s) (C (lsV (done ++ a.drop (i + M)))) (C (lsV (done ++ a.drop (i + M + s)))) ∧ Sl d a b (i + M + s) (j + M) done
  | 0, _ => ⟨Chn.nil _, hs⟩
  | s + 1, h1 => by
    obtain ⟨hch, hst⟩ := gp2_chn hC hG ha hs s (by omega)
    have hi : i + M + s < a.length := by omega
    have hst' : Sl d a b (i + M + (s + 1)) (j + M) done := ⟨hst.len, hst.ok, by
      have := hst.sz
      rw [← Nat.add_assoc, szL_take hi]; omega, hst.eq⟩
    refine ⟨?_, hst'⟩
    rw [gp2_succ, getD_at' hi]
    have hstep : StpC ⟨3, p ++ [idxS (j + M)], 0, a[i + M + s], nulV⟩ (C (lsV (done ++ a.drop (i + M + s)))) (C (lsV (done ++ a.drop (i + M + (s + 1))))) := by
      have := RemB.elem (old := a[i + M + s]) (done ++ a[i + M + s] :: a.drop (i + M + s + 1)) done.length (midX_at _ _ _)
      rw [midX_erase, hst.len] at this
      rw [List.drop_eq_getElem_cons hi]
      exact .rem p (idxS (j + M)) 0 _ _ _ (hC.base this)
    refine hch.append (Chn.one hstep (hG _ (fun x hx => ?_) ?_))
    · rcases List.mem_append.1 hx with hx | hx
      · exact hst.ok x hx
      · exact ha x (List.mem_of_mem_drop hx)
    · have e1 := hst.sz
      have e2 := szL_td d a (i + M + s)
      have e3 := szL_td d b (j + M)
      rw [szL_drop hi] at e2
      rw [szL_append]
      rw [Nat.add_assoc (i + M) s 1] at e2
      omega
theorem gp3_chn (hC : Ctp p C) (hG : ∀ l : List V, (∀ x ∈ l, Gok d x) → szL d l ≤ szL d a + szL d b → G (C (lsV l))) (ha : ∀ x ∈ a, Gok d x) (hb : ∀ x ∈ b, Gok d x) {x j M : Nat} {done : List V} (hs : Sl d a b x (j + M) done) :
    ∀ s, j + M + s ≤ b.length → ∃ done', Chn G (gp3 p b j M s) (C (lsV (done ++ a.drop x))) (C (lsV (done' ++ a.drop x))) ∧ Sl d a b x (j + M + s) done'
  | 0, _ => ⟨done, Chn.nil _, hs⟩
  | s + 1, h1 => by
    obtain ⟨dn, hch, hst⟩ := gp3_chn hC hG ha hb hs s (by omega)
    have hj : j + M + s < b.length := by omega
    have hst' : Sl d a b x (j + M + (s + 1)) (dn ++ [b[j + M + s]]) := by
      refine ⟨by rw [List.length_append, hst.len]; simp; omega, fun v hv => ?_, ?_, ?_⟩
      · rcases List.mem_append.1 hv with hv | hv
        · exact hst.ok v hv
        · obtain rfl : v = b[j + M + s] := by simpa using hv
          exact hb _ (List.getElem_mem _)
      · have e1 := hst.sz
        rw [← Nat.add_assoc, szL_take hj, szL_append]
        have : szL d [b[j + M + s]] = tsz d b[j + M + s] := by simp [szL]
        omega
      · rw [← Nat.add_assoc, List.take_add_one, List.getElem?_eq_getElem hj, List.map_append, List.map_append, hst.eq]
        simp
    refine ⟨dn ++ [b[j + M + s]], ?_, hst'⟩
    rw [gp3_succ, getD_at' hj]
    have hstep : StpC ⟨2, p ++ [idxS (j + M + s)], 0, nulV, b[j + M + s]⟩ (C (lsV (dn ++ a.drop x))) (C (lsV (dn ++ [b[j + M + s]] ++ a.drop x))) := by
      have := RemB.elem (old := b[j + M + s]) (dn ++ b[j + M + s] :: a.drop x) dn.length (midX_at _ _ _)
      rw [midX_erase, hst.len] at this
      rw [List.append_assoc]
      exact .ins p (idxS (j + M + s)) 0 _ _ _ (hC.base (R := fun m m' => RemB b[j + M + s] (idxS (j + M + s)) 0 m' m) this)
    refine hch.append (Chn.one hstep (hG _ (fun v hv => ?_) ?_))
    · rcases List.mem_append.1 hv with hv | hv
      · exact hst'.ok v hv
      · exact ha v (List.mem_of_mem_drop hv)
    · have e1 := hst'.sz
      have e2 := szL_td d a x
      have e3 := szL_td d b (j + M + (s + 1))
      rw [szL_append]
      omega
theorem gap_chn (ih : Btw E G d) (hC : Ctp p C) (hG : ∀ l : List V, (∀ x ∈ l, Gok d x) → szL d l ≤ szL d a + szL d b → G (C (lsV l))) (ha : ∀ x ∈ a, Gok d x) (hb : ∀ x ∈ b, Gok d x) {i j x y : Nat} {done : List V} (hs : Sl d a b i j done) (h1 : i ≤ x) (h2 : j ≤ y) (h3 : x ≤ a.length) (h4 : y ≤ b.length) :
    ∃ done', Chn G (gapC (btw E d) p a b i j (x - i) (y - j)) (C (lsV (done ++ a.drop i))) (C (lsV (done' ++ a.drop x))) ∧ Sl d a b x y done' := by
  obtain ⟨M, hM⟩ : ∃ M, M = min (x - i) (y - j) := ⟨_, rfl⟩
  rw [gapC_M _ _ _ _ _ _ _ _ M hM]
  obtain ⟨d1, c1, s1⟩ := gp1_chn ih hC hG ha hb hs M (by omega) (by omega)
  obtain ⟨c2, s2⟩ := gp2_chn hC hG ha s1 (x - i - (y - j)) (by omega)
  have e1 : i + M + (x - i - (y - j)) = x := by omega
  rw [e1] at c2 s2
  obtain ⟨d3, c3, s3⟩ := gp3_chn hC hG ha hb s2 (y - j - (x - i)) (by omega)
  have e2 : j + M + (y - j - (x - i)) = y := by omega
  rw [e2] at s3
  exact ⟨d3, (c1.append c2).append c3, s3⟩
def PkR (E : V → V → Bool) (a b : List V) : List (Nat × Nat) → Nat → Nat → Prop
  | [], i, j => i ≤ a.length ∧ j ≤ b.length
  | (x, y) :: l, i, j => i ≤ x ∧ j ≤ y ∧ x < a.length ∧ y < b.length ∧ E (a.getD x nulV) (b.getD y nulV) = true ∧ PkR E a b l (x + 1) (y + 1)
theorem pk_of : ∀ (l : List (Nat × Nat)) (i j : Nat), (∀ q ∈ l, i ≤ q.1 ∧ j ≤ q.2 ∧ EqAt E a b q) → l.Pairwise Up → i ≤ a.length → j ≤ b.length → PkR E a b l i j
  | [], i, j, _, _, h1, h2 => ⟨h1, h2⟩
  | (x, y) :: l, i, j, h, hp, h1, h2 => by
    obtain ⟨q1, q2, q3, q4, q5⟩ := h (x, y) (List.mem_cons_self ..)
    rw [List.pairwise_cons] at hp
    refine ⟨q1, q2, q3, q4, q5, pk_of l _ _ (fun q hq => ?_) hp.2 q3 q4⟩
    have hu := hp.1 q hq
    exact ⟨hu.1, hu.2, (h q (List.mem_cons_of_mem _ hq)).2.2⟩
theorem pk_common : PkR E a b (common E a b) 0 0 := by
  obtain ⟨h1, h2, _⟩ := common_up E a b
  exact pk_of _ 0 0 (fun q hq => ⟨Nat.zero_le _, Nat.zero_le _, h1 q hq⟩) h2 (Nat.zero_le _) (Nat.zero_le _)
theorem lst_chn (hE : ∀ x y, E x y = true ↔ canon x = canon y) (ih : Btw E G d) (hC : Ctp p C) (hG : ∀ l : List V, (∀ x ∈ l, Gok d x) → szL d l ≤ szL d a + szL d b → G (C (lsV l))) (ha : ∀ x ∈ a, Gok d x) (hb : ∀ x ∈ b, Gok d x) :
    ∀ (l : List (Nat × Nat)) (i j : Nat) (done : List V), PkR E a b l i j → Sl d a b i j done →
      ∃ z, Chn G (lstC (btw E d) p a b (l ++ [(a.length, b.length)]) i j) (C (lsV (done ++ a.drop i))) (C (lsV z)) ∧ (∀ v ∈ z, Gok d v) ∧ szL d z ≤ szL d a + szL d b ∧ z.map canon = b.map canon
  | [], i, j, done, h, hs => by
    obtain ⟨dn, c1, s1⟩ := gap_chn ih hC hG ha hb hs h.1 h.2 (Nat.le_refl _) (Nat.le_refl _)
    refine ⟨dn, ?_, s1.ok, ?_, ?_⟩
    · simp only [List.nil_append, lstC, List.append_nil]
      rwa [List.drop_length, List.append_nil] at c1
    · have := s1.sz
      rwa [List.take_length, List.take_length] at this
    · have := s1.eq
      rwa [List.take_length] at this
  | (x, y) :: l, i, j, done, ⟨h1, h2, h3, h4, h5, h6⟩, hs => by
    obtain ⟨dn, c1, s1⟩ := gap_chn ih hC hG ha hb hs h1 h2 (Nat.le_of_lt h3) (Nat.le_of_lt h4)
    rw [getD_at' h3, getD_at' h4] at h5
    have s2 : Sl d a b (x + 1) (y + 1) (dn ++ [a[x]]) := by
      refine ⟨by rw [List.length_append, s1.len]; rfl, fun v hv => ?_, ?_, ?_⟩
      · rcases List.mem_append.1 hv with hv | hv
        · exact s1.ok v hv
        · obtain rfl : v = a[x] := by simpa using hv
          exact ha _ (List.getElem_mem _)
      · have e1 := s1.sz
        rw [szL_take h3, szL_take h4, szL_append]
        have : szL d [a[x]] = tsz d a[x] := by simp [szL]
        omega
      · rw [List.take_add_one, List.getElem?_eq_getElem h4, List.map_append, List.map_append, s1.eq]
        simp [(hE _ _).1 h5]
    obtain ⟨z, c2, z1, z2, z3⟩ := lst_chn hE ih hC hG ha hb l (x + 1) (y + 1) (dn ++ [a[x]]) h6 s2
    refine ⟨z, ?_, z1, z2, z3⟩
    simp only [List.cons_append, lstC]
    refine c1.append (c2.cast rfl ?_ rfl)
    rw [List.append_assoc, List.drop_eq_getElem_cons h3]; rfl
end
end Go.Dk
end
section
set_option linter.unusedVariables false
set_option linter.unusedSimpArgs false
namespace Go.Dk
open Go Go.RowKit
def kbs (d : Nat) (fb : Fs) : Fs → Nat
  | [] => 0
  | kv :: l => tO d (hasF kv.1 fb) + kbs d fb l
theorem kbs_keys (d : Nat) (fb : Fs) : ∀ l : Fs, kbs d fb l = ((keysOf l).map fun k => tO d (hasF k fb)).sum
  | [] => rfl
  | kv :: l => by simp only [kbs, keysOf, List.map_cons, List.sum_cons, kbs_keys d fb l]
def kpt (fb : Fs) (l : Fs) : Fs := l.filter fun kv => (hasF kv.1 fb).isSome
def nwF (fa : Fs) (l : Fs) : Fs := l.filter fun kv => !(hasF kv.1 fa).isSome
theorem kbs_nw (d : Nat) (fa : Fs) (hn : (keysOf fa).Nodup) : ∀ fb : Fs, ((keysOf fa).map fun k => tO d (hasF k fb)).sum + szF d (nwF fa fb) ≤ szF d fb
  | [] => by
    have : ((keysOf fa).map fun k => tO d (hasF k [])) = (keysOf fa).map fun _ => 0 := by simp [hasF, tO]
    rw [this, sum_zero]; simp [nwF, szF]
  | kv :: fb => by
    have h1 := kbs_nw d fa hn fb
    rw [szF_cons]
    by_cases hk : (hasF kv.1 fa).isSome = true
    · have e1 : nwF fa (kv :: fb) = nwF fa fb := by unfold nwF; rw [List.filter_cons_of_neg (by simp [hk])]
      have hs : ((keysOf fa).map fun k => tO d (hasF k (kv :: fb))).sum ≤ ((keysOf fa).map fun k => (if kv.1 = k then tsz d kv.2 else 0) + tO d (hasF k fb)).sum := sum_le (fun k => by
        unfold hasF
        rw [List.find?_cons]
        by_cases h : kv.1 = k
        · simp [h, tO]
        · simp [h]) _
      rw [sum_add] at hs
      have h4 := sum_one (a := kv.1) (c := tsz d kv.2) _ hn
      rw [e1]
      omega
    · have e1 : nwF fa (kv :: fb) = kv :: nwF fa fb := by unfold nwF; rw [List.filter_cons_of_pos (by simp [hk])]
      have hs : ((keysOf fa).map fun k => tO d (hasF k (kv :: fb))) = (keysOf fa).map fun k => tO d (hasF k fb) := List.map_congr_left fun k hm => by
        unfold hasF
        rw [List.find?_cons]
        by_cases h : kv.1 = k
        · exact absurd (hasF_isSome.2 (h ▸ hm)) hk
        · simp [h]
      rw [hs, e1, szF_cons]
      omega
theorem szF_filter (d : Nat) (q : ByteArray × V → Bool) : ∀ l : Fs, szF d (l.filter q) ≤ szF d l
  | [] => Nat.le_refl _
  | kv :: l => by
    have := szF_filter d q l
    rw [List.filter_cons, szF_cons]
    split
    · rw [szF_cons]; omega
    · omega
theorem keysOk_of {l l' : Fs} (h : KeysOk l) (e : keysOf l' = keysOf l) : KeysOk l' := by
  refine ⟨fun kv hk => ?_, by rw [e]; exact h.2⟩
  have : kv.1 ∈ keysOf l := by rw [← e]; exact List.mem_map.2 ⟨kv, hk, rfl⟩
  obtain ⟨kv', hk', e'⟩ := List.mem_map.1 this
  rw [← e']; exact h.1 kv' hk'
theorem keysOk_sub {l l' : Fs} (h : KeysOk l) (hs : l'.Sublist l) : KeysOk l' :=
  ⟨fun kv hk => h.1 kv (hs.subset hk), (hs.map _).nodup h.2⟩
theorem keys_app (l l' : Fs) : keysOf (l ++ l') = keysOf l ++ keysOf l' := by simp [keysOf]
def Krel (d : Nat) (fb : Fs) : Fs → Fs → Prop
  | [], [] => True
  | kv :: r, kv' :: r' => kv'.1 = kv.1 ∧ Gok d kv'.2 ∧ (∀ u, hasF kv.1 fb = some u → canon kv'.2 = canon u) ∧ (hasF kv.1 fb = none → kv'.2 = kv.2) ∧ Krel d fb r r'
  | _, _ => False
theorem Krel.keys {d : Nat} {fb : Fs} : ∀ {r r' : Fs}, Krel d fb r r' → keysOf r' = keysOf r
  | [], [], _ => rfl
  | kv :: r, kv' :: r', h => by
    have := Krel.keys h.2.2.2.2
    simp only [keysOf, List.map_cons] at this ⊢
    rw [this, h.1]
  | [], _ :: _, h => h.elim
  | _ :: _, [], h => h.elim
theorem Krel.ok {d : Nat} {fb : Fs} : ∀ {r r' : Fs}, Krel d fb r r' → ∀ kv ∈ r', Gok d kv.2
  | [], [], _ => fun kv h => by cases h
  | kv :: r, kv' :: r', h => fun x hx => by
    rcases List.mem_cons.1 hx with rfl | hx
    · exact h.2.1
    · exact Krel.ok h.2.2.2.2 x hx
  | [], _ :: _, h => h.elim
  | _ :: _, [], h => h.elim
theorem hasF_cons (k : ByteArray) (kv : ByteArray × V) (l : Fs) : hasF k (kv :: l) = if kv.1 = k then some kv.2 else hasF k l := by
  unfold hasF
  rw [List.find?_cons]
  by_cases h : kv.1 = k
  · simp [h]
  · simp [h]
theorem hasF_app (k : ByteArray) : ∀ (l l' : Fs), hasF k (l ++ l') = (hasF k l).or (hasF k l')
  | [], l' => by simp [hasF]
  | kv :: l, l' => by
    rw [List.cons_append, hasF_cons, hasF_cons, hasF_app k l l']
    split <;> simp
theorem hasF_filter (k : ByteArray) (q : ByteArray → Bool) : ∀ l : Fs, hasF k (l.filter fun kv => q kv.1) = if q k then hasF k l else none
  | [] => by simp [hasF]
  | kv :: l => by
    have ih := hasF_filter k q l
    rw [List.filter_cons]
    by_cases hq : q kv.1 = true
    · rw [if_pos hq, hasF_cons, hasF_cons, ih]
      by_cases h : kv.1 = k
      · rw [if_pos h, if_pos h, ← h, if_pos hq]
      · rw [if_neg h, if_neg h]
    · rw [if_neg hq, ih, hasF_cons]
      by_cases h : kv.1 = k
      · rw [← h, if_neg hq, if_neg hq]
      · rw [if_neg h]
theorem Krel.get {d : Nat} {fb : Fs} {k : ByteArray} : ∀ {r r' : Fs}, Krel d fb r r' → (hasF k r').isSome = (hasF k r).isSome ∧ ∀ x u, hasF k r' = some x → hasF k fb = some u → canon x = canon u
  | [], [], _ => ⟨rfl, fun x u h => by cases h⟩
  | kv :: r, kv' :: r', h => by
    obtain ⟨h1, h2⟩ := Krel.get (k := k) h.2.2.2.2
    rw [hasF_cons, hasF_cons, h.1]
    by_cases e : kv.1 = k
    · rw [if_pos e, if_pos e]
      refine ⟨rfl, fun x u hx hu => ?_⟩
      obtain rfl : kv'.2 = x := by simpa using hx
      exact h.2.2.1 u (by rw [e]; exact hu)
    · rw [if_neg e, if_neg e]
      exact ⟨h1, h2⟩
  | [], _ :: _, h => h.elim
  | _ :: _, [], h => h.elim
section
variable {E : V → V → Bool} {G : V → Prop} {d Bd : Nat} {p : List Stp} {C : V → V} {fb : Fs}
theorem kep_chn (ih : Btw E G d) (hC : Ctp p C) (hG : ∀ F : Fs, KeysOk F → (∀ kv ∈ F, Gok d kv.2) → szF d F ≤ Bd → G (C (mapV F))) (hb : ∀ kv ∈ fb, Gok d kv.2) :
    ∀ (rest pre : Fs), KeysOk (pre ++ rest) → (∀ kv ∈ pre, Gok d kv.2) → (∀ kv ∈ rest, Gok d kv.2) → szF d pre + szF d rest + kbs d fb rest ≤ Bd →
      ∃ rest', Krel d fb rest rest' ∧ Chn G (kepC (btw E d) p fb rest) (C (mapV (pre ++ rest))) (C (mapV (pre ++ rest'))) ∧ szF d rest' ≤ szF d rest + kbs d fb rest
  | [], pre, _, _, _, _ => ⟨[], trivial, Chn.nil _, by simp [szF]⟩
  | kv :: rest, pre, hk, hp, hr, hs => by
    rw [szF_cons] at hs
    simp only [kbs] at hs
    have hr' : ∀ kv ∈ rest, Gok d kv.2 := fun x hx => hr x (List.mem_cons_of_mem _ hx)
    have hkv := hr kv (List.mem_cons_self ..)
    cases hu : hasF kv.1 fb with
    | none =>
      rw [hu] at hs
      have z0 : tO d none = 0 := rfl
      obtain ⟨r', h1, h2, h3⟩ := kep_chn ih hC hG hb rest (pre ++ [kv]) (by rwa [List.append_assoc]) (fun x hx => by
        rcases List.mem_append.1 hx with hx | hx
        · exact hp x hx
        · obtain rfl : x = kv := by simpa using hx
          exact hkv) hr' (by rw [szF_append]; have : szF d [kv] = tsz d kv.2 := by simp [szF]
                             omega)
      refine ⟨kv :: r', ⟨rfl, hkv, (fun u h => by rw [hu] at h; cases h), fun _ => rfl, h1⟩, ?_, ?_⟩
      · simp only [kepC, hu, List.nil_append]
        rwa [List.append_assoc, List.append_assoc] at h2
      · rw [szF_cons, szF_cons]; simp only [kbs, hu]; omega
    | some u =>
      rw [hu] at hs
      have z1 : tO d (some u) = tsz d u := rfl
      have hgu : Gok d u := hb (kv.1, u) (hasF_mem hu)
      obtain ⟨z, c1, z2, z3, z4⟩ := ih (p ++ [keyS kv.1]) (fun m => C (mapV (pre ++ (kv.1, m) :: rest))) kv.2 u (hC.field pre rest kv.1) (fun m hm hms => hG _ (keysOk_of hk (by simp [keysOf])) (fun x hx => by
          rcases List.mem_append.1 hx with hx | hx
          · exact hp x hx
          · rcases List.mem_cons.1 hx with rfl | hx
            · exact hm
            · exact hr' x hx) (by rw [szF_append, szF_cons]; dsimp only; omega)) hkv hgu
      obtain ⟨r', h1, h2, h3⟩ := kep_chn ih hC hG hb rest (pre ++ [(kv.1, z)]) (keysOk_of hk (by simp [keysOf])) (fun x hx => by
        rcases List.mem_append.1 hx with hx | hx
        · exact hp x hx
        · obtain rfl : x = (kv.1, z) := by simpa using hx
          exact z2) hr' (by rw [szF_append]; have : szF d [(kv.1, z)] = tsz d z := by simp [szF]
                            omega)
      refine ⟨(kv.1, z) :: r', ⟨rfl, z2, (fun u' h => by rw [hu] at h; cases h; exact z4), (fun h => by rw [hu] at h; cases h), h1⟩, ?_, ?_⟩
      · simp only [kepC, hu]
        refine c1.append (h2.cast rfl ?_ ?_)
        · rw [List.append_assoc]; rfl
        · rw [List.append_assoc]; rfl
      · rw [szF_cons, szF_cons]; simp only [kbs, hu]; omega
theorem rem_chn (hC : Ctp p C) (hG : ∀ F : Fs, KeysOk F → (∀ kv ∈ F, Gok d kv.2) → szF d F ≤ Bd → G (C (mapV F))) :
    ∀ (rest rest' pre : Fs) (n : Nat), Krel d fb rest rest' → pre.length = n → KeysOk (pre ++ rest') → (∀ kv ∈ pre, Gok d kv.2) → szF d pre + szF d rest' ≤ Bd →
      Chn G (remC p fb rest n) (C (mapV (pre ++ rest'))) (C (mapV (pre ++ kpt fb rest')))
  | [], [], pre, n, _, _, _, _, _ => Chn.nil _
  | kv :: rest, kv' :: rest', pre, n, h, hn, hk, hp, hs => by
    rw [szF_cons] at hs
    by_cases hu : (hasF kv.1 fb).isSome = true
    · have e1 : kpt fb (kv' :: rest') = kv' :: kpt fb rest' := by unfold kpt; rw [List.filter_cons_of_pos (by rw [h.1]; exact hu)]
      simp only [remC, if_pos hu]
      have := rem_chn hC hG rest rest' (pre ++ [kv']) (n + 1) h.2.2.2.2 (by rw [List.length_append, hn]; rfl) (by rwa [List.append_assoc]) (fun x hx => by
        rcases List.mem_append.1 hx with hx | hx
        · exact hp x hx
        · obtain rfl : x = kv' := by simpa using hx
          exact h.2.1) (by rw [szF_append]; have : szF d [kv'] = tsz d kv'.2 := by simp [szF]
                           omega)
      rw [e1]
      rwa [List.append_assoc, List.append_assoc] at this
    · have e1 : kpt fb (kv' :: rest') = kpt fb rest' := by unfold kpt; rw [List.filter_cons_of_neg (by rw [h.1]; exact hu)]
      have hnone : hasF kv.1 fb = none := by
        cases hx : hasF kv.1 fb with
        | none => rfl
        | some u => rw [hx] at hu; exact absurd rfl hu
      have e2 : kv' = (kv.1, kv.2) := Prod.ext h.1 (h.2.2.2.1 hnone)
      simp only [remC, if_neg hu]
      have hk2 : KeysOk (pre ++ rest') := keysOk_sub hk ((List.append_sublist_append_left pre).2 (List.sublist_cons_self kv' rest'))
      have hstep : StpC ⟨3, p ++ [keyS kv.1], n, kv.2, nulV⟩ (C (mapV (pre ++ kv' :: rest'))) (C (mapV (pre ++ rest'))) := by
        have := RemB.field (old := kv.2) (pre ++ kv' :: rest') pre.length kv.1 (by rw [midX_at, e2]) hk.2
        rw [midX_erase, hn] at this
        exact .rem p (keyS kv.1) n _ _ _ (hC.base this)
      rw [e1]
      refine ⟨_, hstep, hG _ hk2 (fun x hx => ?_) (by rw [szF_append]; omega), rem_chn hC hG rest rest' pre n h.2.2.2.2 hn hk2 hp (by omega)⟩
      rcases List.mem_append.1 hx with hx | hx
      · exact hp x hx
      · exact h.2.2.2.2.ok x hx
  | [], _ :: _, _, _, h, _, _, _, _ => h.elim
  | _ :: _, [], _, _, h, _, _, _, _ => h.elim
theorem add_chn {fa : Fs} (hC : Ctp p C) (hG : ∀ F : Fs, KeysOk F → (∀ kv ∈ F, Gok d kv.2) → szF d F ≤ Bd → G (C (mapV F))) :
    ∀ (rest pre : Fs) (n : Nat), pre.length = n → KeysOk (pre ++ nwF fa rest) → (∀ kv ∈ pre, Gok d kv.2) → (∀ kv ∈ rest, Gok d kv.2) → szF d pre + szF d (nwF fa rest) ≤ Bd →
      Chn G (addC p fa rest n) (C (mapV pre)) (C (mapV (pre ++ nwF fa rest)))
  | [], pre, n, _, _, _, _, _ => by
    have : nwF fa [] = [] := rfl
    rw [this, List.append_nil]
    exact Chn.nil _
  | kv :: rest, pre, n, hn, hk, hp, hr, hs => by
    have hr' : ∀ kv ∈ rest, Gok d kv.2 := fun x hx => hr x (List.mem_cons_of_mem _ hx)
    by_cases hu : (hasF kv.1 fa).isSome = true
    · have e1 : nwF fa (kv :: rest) = nwF fa rest := by unfold nwF; rw [List.filter_cons_of_neg (by simp [hu])]
      rw [e1] at hk hs ⊢
      simp only [addC, if_pos hu]
      exact add_chn hC hG rest pre n hn hk hp hr' hs
    · have e1 : nwF fa (kv :: rest) = kv :: nwF fa rest := by unfold nwF; rw [List.filter_cons_of_pos (by simp [hu])]
      rw [e1] at hk hs ⊢
      rw [szF_cons] at hs
      simp only [addC, if_neg hu]
      have hk2 : KeysOk (pre ++ [kv]) := keysOk_sub hk ((List.append_sublist_append_left pre).2 (List.cons_sublist_cons.2 (List.nil_sublist _)))
      have hp2 : ∀ x ∈ pre ++ [kv], Gok d x.2 := fun x hx => by
        rcases List.mem_append.1 hx with hx | hx
        · exact hp x hx
        · obtain rfl : x = kv := by simpa using hx
          exact hr _ (List.mem_cons_self ..)
      have hsz : szF d (pre ++ [kv]) = szF d pre + tsz d kv.2 := by rw [szF_append]; simp [szF]
      have hstep : StpC ⟨2, p ++ [keyS kv.1], n, nulV, kv.2⟩ (C (mapV pre)) (C (mapV (pre ++ [kv]))) := by
        have := RemB.field (old := kv.2) (pre ++ [kv]) pre.length kv.1 (midX_at _ _ _) hk2.2
        rw [midX_erase, hn, List.append_nil] at this
        exact .ins p (keyS kv.1) n _ _ _ (hC.base (R := fun m m' => RemB kv.2 (keyS kv.1) n m' m) this)
      refine ⟨_, hstep, hG _ hk2 hp2 (by omega), ?_⟩
      have := add_chn hC hG rest (pre ++ [kv]) (n + 1) (by rw [List.length_append, hn]; rfl) (by rwa [List.append_assoc]) hp2 hr' (by omega)
      rwa [List.append_assoc] at this
end
theorem kpt_len (fb : Fs) : ∀ {d : Nat} {r r' : Fs}, Krel d fb r r' → (kpt fb r').length = nkep fb r
  | _, [], [], _ => rfl
  | _, kv :: r, kv' :: r', h => by
    have := kpt_len fb h.2.2.2.2
    unfold kpt at this ⊢
    rw [List.filter_cons, h.1]
    simp only [nkep]
    split
    · rw [List.length_cons, this]; omega
    · omega
  | _, [], _ :: _, h => h.elim
  | _, _ :: _, [], h => h.elim
theorem btw_chn {E : V → V → Bool} {G : V → Prop} (hE : ∀ x y, E x y = true ↔ canon x = canon y) : ∀ d, Btw E G d
  | 0 => fun q C x y _ _ hx _ => hx.elim
  | d + 1 => fun p C a b hC hG ha hb => by
    have ih := btw_chn (G := G) hE d
    cases hq : E a b with
    | true =>
      rw [btw_eq hq]
      exact ⟨a, Chn.nil _, ha, by omega, (hE a b).1 hq⟩
    | false =>
      by_cases hk : a.sc.kind = 7 ∧ b.sc.kind = 7
      · have ea := map_of ha.1.1 hk.1
        have eb := map_of hb.1.1 hk.2
        obtain ⟨fa, hfa⟩ : ∃ fa, fa = a.fields := ⟨_, rfl⟩
        obtain ⟨fb, hfb⟩ : ∃ fb, fb = b.fields := ⟨_, rfl⟩
        rw [btw_map hq hk.1 hk.2, ← hfa, ← hfb]
        rw [← hfa] at ea
        rw [← hfb] at eb
        have hka : KeysOk fa := by rw [hfa]; exact ha.1.2.2.2.2.2.2
        have hkb : KeysOk fb := by rw [hfb]; exact hb.1.2.2.2.2.2.2
        have hga : ∀ kv ∈ fa, Gok d kv.2 := by rw [hfa]; exact ha.2.2
        have hgb : ∀ kv ∈ fb, Gok d kv.2 := by rw [hfb]; exact hb.2.2
        have hsa : tsz (d + 1) a = 1 + szF d fa := by rw [ea, tsz_map]
        have hsb : tsz (d + 1) b = 1 + szF d fb := by rw [eb, tsz_map]
        have hz0 : szF d [] = 0 := rfl
        have hkn := kbs_nw d fa hka.2 fb
        rw [← kbs_keys] at hkn
        have hG' : ∀ F : Fs, KeysOk F → (∀ kv ∈ F, Gok d kv.2) → szF d F ≤ szF d fa + szF d fb → G (C (mapV F)) := fun F h1 h2 h3 => hG _ (gok_map h1 h2) (by rw [tsz_map]; omega)
        obtain ⟨r', k1, c1, k3⟩ := kep_chn (fb := fb) ih hC hG' hgb fa [] hka (fun x hx => by cases hx) hga (by omega)
        have hkr : KeysOk r' := keysOk_of hka k1.keys
        have c2 := rem_chn hC hG' fa r' [] 0 k1 rfl hkr (fun x hx => by cases hx) (by omega)
        have hkk : KeysOk (kpt fb r' ++ nwF fa fb) := by
          have h1 := keysOk_sub hkr (List.filter_sublist (l := r') (p := fun kv => (hasF kv.1 fb).isSome))
          have h2 := keysOk_sub hkb (List.filter_sublist (l := fb) (p := fun kv => !(hasF kv.1 fa).isSome))
          refine ⟨fun kv hx => ?_, ?_⟩
          · rcases List.mem_append.1 hx with hx | hx
            · exact h1.1 kv hx
            · exact h2.1 kv hx
          · rw [keys_app, List.nodup_append]
            refine ⟨h1.2, h2.2, fun x hx y hy e => ?_⟩
            subst e
            obtain ⟨kv, hkv, rfl⟩ := List.mem_map.1 hx
            obtain ⟨kv2, hkv2, e2⟩ := List.mem_map.1 hy
            have hm : kv.1 ∈ keysOf r' := List.mem_map.2 ⟨kv, (List.mem_filter.1 hkv).1, rfl⟩
            rw [k1.keys] at hm
            have h3 := (List.mem_filter.1 hkv2).2
            rw [e2, hasF_isSome.2 hm] at h3
            cases h3
        have hokk : ∀ kv ∈ kpt fb r', Gok d kv.2 := fun kv hx => k1.ok kv (List.mem_filter.1 hx).1
        have hsk : szF d (kpt fb r') ≤ szF d r' := szF_filter d _ r'
        have c3 := add_chn (fa := fa) hC hG' fb (kpt fb r') (nkep fb fa) (kpt_len fb k1) hkk hokk hgb (by omega)
        have hok : ∀ kv ∈ kpt fb r' ++ nwF fa fb, Gok d kv.2 := fun kv hx => by
          rcases List.mem_append.1 hx with hx | hx
          · exact hokk kv hx
          · exact hgb kv (List.mem_filter.1 hx).1
        refine ⟨mapV (kpt fb r' ++ nwF fa fb), ?_, gok_map hkk hok, ?_, ?_⟩
        · rw [ea]
          exact (c1.append c2).append c3
        · rw [tsz_map, szF_append]; omega
        · rw [eb]
          refine canon_map_eq hkk.2 hkb.2 fun k => ?_
          have g1 : hasF k (kpt fb r') = if (hasF k fb).isSome then hasF k r' else none := hasF_filter k (fun k => (hasF k fb).isSome) r'
          have g2 : hasF k (nwF fa fb) = if !(hasF k fa).isSome then hasF k fb else none := hasF_filter k (fun k => !(hasF k fa).isSome) fb
          obtain ⟨g3, g4⟩ := k1.get (k := k)
          rw [hasF_app, g1, g2]
          cases hu : hasF k fb with
          | none => simp
          | some u =>
            cases hx : hasF k r' with
            | none =>
              rw [hx] at g3
              rw [← g3]; simp
            | some x =>
              have := g4 x u hx hu
              simp [this]
      · by_cases hl : a.sc.kind = 6 ∧ b.sc.kind = 6
        · have ea := ls_of ha.1.1 hl.1
          have eb := ls_of hb.1.1 hl.2
          obtain ⟨la, hla⟩ : ∃ la, la = a.list := ⟨_, rfl⟩
          obtain ⟨lb, hlb⟩ : ∃ lb, lb = b.list := ⟨_, rfl⟩
          rw [btw_lst hq hk hl.1 hl.2, ← hla, ← hlb]
          rw [← hla] at ea
          rw [← hlb] at eb
          have hga : ∀ x ∈ la, Gok d x := by rw [hla]; exact ha.2.1
          have hgb : ∀ x ∈ lb, Gok d x := by rw [hlb]; exact hb.2.1
          have hsa : tsz (d + 1) a = 1 + szL d la := by rw [ea, tsz_ls]
          have hsb : tsz (d + 1) b = 1 + szL d lb := by rw [eb, tsz_ls]
          have hG' : ∀ l : List V, (∀ x ∈ l, Gok d x) → szL d l ≤ szL d la + szL d lb → G (C (lsV l)) := fun l h1 h2 => hG _ (gok_ls h1) (by rw [tsz_ls]; omega)
          obtain ⟨z, c1, z1, z2, z3⟩ := lst_chn hE ih hC hG' hga hgb (common E la lb) 0 0 [] pk_common ⟨rfl, (fun v h => by cases h), by simp [szL], rfl⟩
          refine ⟨lsV z, ?_, gok_ls z1, ?_, ?_⟩
          · rw [ea]; exact c1
          · rw [tsz_ls]; omega
          · rw [eb, canon_iff]
            exact ⟨rfl, rfl, z3, rfl⟩
        · rw [btw_rep hq hk hl]
          refine ⟨b, Chn.one (.rep p a b _ _ (hC.base ⟨rfl, rfl⟩)) (hG b hb (by omega)), hb, by omega, rfl⟩
end Go.Dk
end
section
set_option linter.unusedVariables false
set_option linter.unusedSimpArgs false
namespace Go.Proofs.Ytmkihcdcgkdilaa
open Go Go.Dk Go.RowKit
theorem gok_deep : ∀ (d : Nat) (v : V), Gok d v → deep d v
  | 0, _, h => h
  | d + 1, v, h => ⟨fun x hx => gok_deep d x (h.2.1 x hx), fun kv hk => gok_deep d kv.2 (h.2.2 kv hk)⟩
theorem sum_ge {α : Type} (f : α → Nat) {l : List α} {x : α} (hx : x ∈ l) : f x ≤ (l.map f).sum := by
  induction l with
  | nil => cases hx
  | cons y l ih =>
    rw [List.map_cons, List.sum_cons]
    rcases List.mem_cons.1 hx with rfl | hx
    · omega
    · have := ih hx; omega
theorem sum_len {α : Type} (f : α → Nat) {l : List α} (h : ∀ x, 1 ≤ f x) : l.length ≤ (l.map f).sum := by
  induction l with
  | nil => exact Nat.zero_le _
  | cons y l ih =>
    rw [List.map_cons, List.sum_cons, List.length_cons]
    have := h y; omega
theorem tsz_list {d : Nat} {v : V} : v.list.length + v.fields.length + 1 ≤ tsz (d + 1) v := by
  have h1 := sum_len (tsz d) (l := v.list) (tsz_pos d)
  have h2 := sum_len (fun kv : ByteArray × V => tsz d kv.2) (l := v.fields) (fun kv => tsz_pos d kv.2)
  simp only [tsz]; omega
theorem tsz_elem {d : Nat} {v x : V} (hx : x ∈ v.list) : tsz d x + 1 ≤ tsz (d + 1) v := by
  have h1 := sum_ge (tsz d) hx
  simp only [tsz]; omega
theorem tsz_field {d : Nat} {v : V} {kv : ByteArray × V} (hx : kv ∈ v.fields) : tsz d kv.2 + 1 ≤ tsz (d + 1) v := by
  have h1 := sum_ge (fun kv : ByteArray × V => tsz d kv.2) hx
  simp only [tsz]
  have h2 : tsz d kv.2 ≤ (v.fields.map fun kv => tsz d kv.2).sum := h1
  omega
theorem gok_szd : ∀ (d : Nat) (v : V), Gok d v → tsz d v ≤ 1048576 → ∀ k, szd 1048576 k v
  | 0, _, h, _, _ => h.elim
  | d + 1, v, h, hs, 0 => trivial
  | d + 1, v, h, hs, k + 1 => by
    have hl := tsz_list (d := d) (v := v)
    obtain ⟨_, hn, _, _, ht, hb, hk⟩ := h.1
    refine ⟨by omega, ?_, by omega, by omega, by omega, fun x hx => gok_szd d x (h.2.1 x hx) (by have := tsz_elem (d := d) hx; omega) k, fun kv hkv => ⟨?_, gok_szd d kv.2 (h.2.2 kv hkv) (by have := tsz_field (d := d) hkv; omega) k⟩⟩
    · rcases hn with ⟨e, _⟩ | ⟨_, e, _⟩
      · rw [e]; exact Nat.zero_le _
      · omega
    · have := (hk.1 kv hkv).2; omega
theorem gok_fine {d : Nat} {v : V} (h : Gok d v) (hs : tsz d v ≤ 1048576) : Fine v := fun k => gok_szd d v h hs k
theorem lst_allB {Q : Ch → Prop} {B : List Stp → V → V → List Ch} (p : List Stp) (a b : List V) (hB : ∀ i j k : Nat, i < a.length → j < b.length → k ≤ b.length → ∀ c ∈ B (p ++ [idxS k]) (a.getD i nulV) (b.getD j nulV), Q c) (hr : ∀ i k : Nat, i < a.length → k ≤ b.length → Q ⟨3, p ++ [idxS k], 0, a.getD i nulV, nulV⟩) (ha : ∀ i k : Nat, i < b.length → k ≤ b.length → Q ⟨2, p ++ [idxS k], 0, nulV, b.getD i nulV⟩) : ∀ (ps : List (Nat × Nat)) (i j : Nat), IncP a.length b.length ps i j → ∀ c ∈ lstC B p a b ps i j, Q c
  | [], i, j, _ => fun c hc => by simp [lstC] at hc
  | (x, y) :: ps, i, j, hI => fun c hc => by
    obtain ⟨h1, h2, h3, h4, h5⟩ := hI
    simp only [lstC, gapC, List.mem_append, List.mem_flatMap, List.mem_map, List.mem_range] at hc
    rcases hc with ((⟨t, ht, hc⟩ | ⟨t, ht, rfl⟩) | ⟨t, ht, rfl⟩) | hc
    · exact hB _ _ _ (by omega) (by omega) (by omega) c hc
    · exact hr _ _ (by omega) (by omega)
    · exact ha _ _ (by omega) (by omega)
    · exact lst_allB p a b hB hr ha ps _ _ h5 c hc
theorem rem_allB {Q : Ch → Prop} (p : List Stp) (fb : Fs) (K : Nat) : ∀ (fa : Fs) (n : Nat), n + fa.length ≤ K → (∀ kv ∈ fa, ∀ m : Nat, m ≤ K → Q ⟨3, p ++ [keyS kv.1], m, kv.2, nulV⟩) → ∀ c ∈ remC p fb fa n, Q c
  | [], n, hn, h => fun c hc => by simp [remC] at hc
  | kv :: fa, n, hn, h => fun c hc => by
    rw [List.length_cons] at hn
    simp only [remC] at hc
    split at hc
    · exact rem_allB p fb K fa _ (by omega) (fun kv hk => h kv (List.mem_cons_of_mem _ hk)) c hc
    · rcases List.mem_cons.1 hc with rfl | hc
      · exact h kv (List.mem_cons_self ..) n (by omega)
      · exact rem_allB p fb K fa _ (by omega) (fun kv hk => h kv (List.mem_cons_of_mem _ hk)) c hc
theorem add_allB {Q : Ch → Prop} (p : List Stp) (fa : Fs) (K : Nat) : ∀ (fb : Fs) (n : Nat), n + fb.length ≤ K → (∀ kv ∈ fb, ∀ m : Nat, m ≤ K → Q ⟨2, p ++ [keyS kv.1], m, nulV, kv.2⟩) → ∀ c ∈ addC p fa fb n, Q c
  | [], n, hn, h => fun c hc => by simp [addC] at hc
  | kv :: fb, n, hn, h => fun c hc => by
    rw [List.length_cons] at hn
    simp only [addC] at hc
    split at hc
    · exact add_allB p fa K fb _ (by omega) (fun kv hk => h kv (List.mem_cons_of_mem _ hk)) c hc
    · rcases List.mem_cons.1 hc with rfl | hc
      · exact h kv (List.mem_cons_self ..) n (by omega)
      · exact add_allB p fa K fb _ (by omega) (fun kv hk => h kv (List.mem_cons_of_mem _ hk)) c hc
theorem nkep_le (fb : Fs) : ∀ fa : Fs, nkep fb fa ≤ fa.length
  | [] => Nat.le_refl _
  | kv :: l => by
    have := nkep_le fb l
    simp only [nkep, List.length_cons]
    split <;> omega
theorem pok_snoc {p : List Stp} {s : Stp} (h : p.length + 1 ≤ 48) (hp : ∀ s ∈ p, SOk s) (hs : SOk s) : POk (p ++ [s]) := by
  refine ⟨by rw [List.length_append]; exact h, fun x hx => ?_⟩
  rcases List.mem_append.1 hx with hx | hx
  · exact hp x hx
  · obtain rfl : x = s := by simpa using hx
    exact hs
theorem sok_idx {k : Nat} (h : k ≤ 65536) : SOk (idxS k) := ⟨fun _ => ⟨rfl, Int.natCast_nonneg _, by show (k : Int) ≤ 65536; omega⟩, (fun h => by cases h)⟩
theorem sok_key {k : ByteArray} (h : VT k ∧ k.size ≤ 1024) : SOk (keyS k) := ⟨(fun h => by cases h), fun _ => ⟨rfl, h.2, h.1⟩⟩
theorem gd48 {d : Nat} {v : V} (hd : d ≤ 48) (h : Gok d v) (hs : tsz d v ≤ 65536) : (Gok 48 v ∧ tsz 48 v ≤ 65536) ∧ Fine v := by
  have e := tsz_deep d 48 v (gok_deep d v h) hd
  exact ⟨⟨h.mono d 48 v hd, by omega⟩, gok_fine h (by omega)⟩
theorem cg_rep {d : Nat} {p : List Stp} {a b : V} (hd : d ≤ 48) (hp : POk p) (ha : Gok d a) (hb : Gok d b) (hs : tsz d a + tsz d b ≤ 65536) : CGood ⟨1, p, 0, a, b⟩ := by
  have h1 := gd48 hd ha (by omega)
  have h2 := gd48 hd hb (by omega)
  exact ⟨show (1 : Int) ≤ 1 by decide, show (1 : Int) ≤ 3 by decide, hp, show (0 : Int) ≤ 0 by decide, show (0 : Int) ≤ 65536 by decide, fun h => absurd rfl h, fun h => absurd h (show ¬ (0 : Int) < 0 by decide), fun h => absurd h (show ¬ (1 : Int) = 2 by decide), fun h => absurd h (show ¬ (1 : Int) = 3 by decide), fun _ => h1.1, fun _ => h2.1, h1.2, h2.2⟩
theorem cg_rem {d : Nat} {p : List Stp} {s : Stp} {n : Nat} {a : V} (hd : d ≤ 48) (hp : POk (p ++ [s])) (ha : Gok d a) (hs : tsz d a ≤ 65536) (hn : n ≤ 65536) (hk : 0 < n → s.byIndex = false) : CGood ⟨3, p ++ [s], n, a, nulV⟩ := by
  have h1 := gd48 hd ha hs
  refine ⟨by show (1 : Int) ≤ 3; decide, by show (3 : Int) ≤ 3; decide, hp, Int.natCast_nonneg _, by show (n : Int) ≤ 65536; omega, fun _ => by simp, fun h => ⟨by show ¬ (3 : Int) = 1; decide, ?_⟩, fun h => absurd h (by show ¬ (3 : Int) = 2; decide), fun _ => rfl, fun _ => h1.1, fun h => absurd rfl h, h1.2, fine_nul⟩
  have h0 : (0 : Int) < (n : Int) := h
  have e : (p ++ [s]).getLast? = some s := by simp
  show (match (p ++ [s]).getLast? with | some s => !s.byIndex | none => false) = true
  rw [e]
  show (!s.byIndex) = true
  rw [hk (by omega)]; rfl
theorem cg_ins {d : Nat} {p : List Stp} {s : Stp} {n : Nat} {a : V} (hd : d ≤ 48) (hp : POk (p ++ [s])) (ha : Gok d a) (hs : tsz d a ≤ 65536) (hn : n ≤ 65536) (hk : 0 < n → s.byIndex = false) : CGood ⟨2, p ++ [s], n, nulV, a⟩ := by
  have h1 := gd48 hd ha hs
  refine ⟨by show (1 : Int) ≤ 2; decide, by show (2 : Int) ≤ 3; decide, hp, Int.natCast_nonneg _, by show (n : Int) ≤ 65536; omega, fun _ => by simp, fun h => ⟨by show ¬ (2 : Int) = 1; decide, ?_⟩, fun _ => rfl, fun h => absurd h (by show ¬ (2 : Int) = 3; decide), fun h => absurd rfl h, fun _ => h1.1, fine_nul, h1.2⟩
  have h0 : (0 : Int) < (n : Int) := h
  have e : (p ++ [s]).getLast? = some s := by simp
  show (match (p ++ [s]).getLast? with | some s => !s.byIndex | none => false) = true
  rw [e]
  show (!s.byIndex) = true
  rw [hk (by omega)]; rfl
theorem getD_mem {l : List V} {i : Nat} (h : i < l.length) : l.getD i nulV ∈ l := by
  rw [List.getD_eq_getElem?_getD, List.getElem?_eq_getElem h]; exact List.getElem_mem _
theorem btw_cg (E : V → V → Bool) : ∀ (d : Nat) (p : List Stp) (a b : V), Gok d a → Gok d b → tsz d a + tsz d b ≤ 65536 → p.length + d ≤ 48 → (∀ s ∈ p, SOk s) → ∀ c ∈ btw E d p a b, CGood c
  | 0, p, a, b, ha, _, _, _, _ => ha.elim
  | d + 1, p, a, b, ha, hb, hs, hl, hp => by
    have la := tsz_list (d := d) (v := a)
    have lb := tsz_list (d := d) (v := b)
    have up : ∀ (s : Stp) (x y : V), SOk s → Gok d x → Gok d y → tsz d x + 1 ≤ tsz (d + 1) a → tsz d y + 1 ≤ tsz (d + 1) b → ∀ c ∈ btw E d (p ++ [s]) x y, CGood c := fun s x y h1 h2 h3 h4 h5 =>
      btw_cg E d (p ++ [s]) x y h2 h3 (by omega) (by rw [List.length_append]; simp only [List.length_cons, List.length_nil]; omega) fun z hz => by
        rcases List.mem_append.1 hz with hz | hz
        · exact hp z hz
        · obtain rfl : z = s := by simpa using hz
          exact h1
    have ps : ∀ s, SOk s → POk (p ++ [s]) := fun s h => pok_snoc (by omega) hp h
    have ka := ha.1.2.2.2.2.2.2
    have kb := hb.1.2.2.2.2.2.2
    unfold btw
    split
    · exact fun c hc => by cases hc
    · split
      · intro c hc
        rcases List.mem_append.1 hc with hc | hc
        · rcases List.mem_append.1 hc with hc | hc
          · exact kep_all (Q := CGood) p b.fields a.fields (fun kv hk u hu => up _ _ _ (sok_key (ka.1 kv hk)) (ha.2.2 kv hk) (hb.2.2 _ (hasF_mem hu)) (tsz_field hk) (tsz_field (hasF_mem hu))) c hc
          · exact rem_allB (Q := CGood) p b.fields 65536 a.fields 0 (by omega) (fun kv hk m hm => cg_rem (d := d) (by omega) (ps _ (sok_key (ka.1 kv hk))) (ha.2.2 kv hk) (by have := tsz_field (d := d) hk; omega) hm fun _ => rfl) c hc
        · have hk := nkep_le b.fields a.fields
          exact add_allB (Q := CGood) p a.fields 65536 b.fields _ (by omega) (fun kv hk m hm => cg_ins (d := d) (by omega) (ps _ (sok_key (kb.1 kv hk))) (hb.2.2 kv hk) (by have := tsz_field (d := d) hk; omega) hm fun _ => rfl) c hc
      · split
        · exact lst_allB (Q := CGood) p a.list b.list (fun i j k hi hj hk => up _ _ _ (sok_idx (by omega)) (ha.2.1 _ (getD_mem hi)) (hb.2.1 _ (getD_mem hj)) (tsz_elem (getD_mem hi)) (tsz_elem (getD_mem hj)))
            (fun i k hi hk => cg_rem (d := d) (n := 0) (by omega) (ps _ (sok_idx (by omega))) (ha.2.1 _ (getD_mem hi)) (by have := tsz_elem (d := d) (getD_mem hi); omega) (by omega) fun h => absurd h (by omega))
            (fun i k hi hk => cg_ins (d := d) (n := 0) (by omega) (ps _ (sok_idx (by omega))) (hb.2.1 _ (getD_mem hi)) (by have := tsz_elem (d := d) (getD_mem hi); omega) (by omega) fun h => absurd h (by omega)) _ 0 0 (inc_common E a.list b.list)
        · intro c hc
          have e : c = ⟨1, p, 0, a, b⟩ := by simpa using hc
          subst e
          exact cg_rep (d := d + 1) (by omega) ⟨by omega, hp⟩ ha hb hs
end Go.Proofs.Ytmkihcdcgkdilaa
end
section
set_option linter.unusedVariables false
set_option linter.unusedSimpArgs false
namespace Go.Proofs.Ytmkihcdcgkdilaa
open Go Go.Dk Go.RowKit
theorem nodup_len : ∀ (l m : List ByteArray), l.Nodup → (∀ x ∈ l, x ∈ m) → l.length ≤ m.length
  | [], m, _, _ => Nat.zero_le _
  | x :: l, m, hn, h => by
    have hx := h x (List.mem_cons_self ..)
    rw [List.nodup_cons] at hn
    have := nodup_len l (m.filter fun y => decide (y ≠ x)) hn.2 fun y hy => List.mem_filter.2 ⟨h y (List.mem_cons_of_mem _ hy), decide_eq_true fun e => hn.1 (by rw [← e]; exact hy)⟩
    have h0 : (m.filter fun y => decide (y ≠ x)).length < m.length := List.length_filter_lt_length_iff_exists.2 ⟨x, hx, by simp⟩
    rw [List.length_cons]; omega
theorem sub_back {l m : List ByteArray} (hl : l.Nodup) (h : ∀ x ∈ l, x ∈ m) (hle : m.length ≤ l.length) : ∀ x ∈ m, x ∈ l := fun x hx => by
  apply Classical.byContradiction
  intro hn
  have := nodup_len (x :: l) m (List.nodup_cons.2 ⟨hn, hl⟩) fun y hy => by
    rcases List.mem_cons.1 hy with rfl | hy
    · exact hx
    · exact h y hy
  rw [List.length_cons] at this
  omega
theorem hasF_keys {k : ByteArray} {l : Fs} : (hasF k l).isSome = true ↔ k ∈ keysOf l := by
  unfold hasF keysOf
  rw [Option.isSome_map, List.find?_isSome, List.mem_map]
  constructor
  · rintro ⟨kv, h1, h2⟩; exact ⟨kv, h1, of_decide_eq_true h2⟩
  · rintro ⟨kv, h1, h2⟩; exact ⟨kv, h1, decide_eq_true h2⟩
theorem dfr_nil {E : V → V → Bool} (hE : ∀ x y, E x y = true ↔ canon x = canon y) : ∀ (d : Nat) (p : List Stp) (a b : V), Gok d a → Gok d b → dfr E d p a b = [] → canon a = canon b
  | 0, p, a, b, ha, _, _ => ha.elim
  | d + 1, p, a, b, ha, hb, h => by
    cases hq : E a b with
    | true => exact (hE a b).1 hq
    | false =>
      have ka := ha.1.2.2.2.2.2.2
      have kb := hb.1.2.2.2.2.2.2
      unfold dfr at h
      rw [if_neg (by rw [hq]; simp)] at h
      split at h
      · rename_i hal
        unfold alike at hal
        simp only [Bool.and_eq_true, beq_iff_eq, List.all_eq_true] at hal
        obtain ⟨⟨⟨h1, h2⟩, h3⟩, h4⟩ := hal
        have ea := map_of ha.1.1 h1
        have eb := map_of hb.1.1 h2
        rw [ea, eb]
        refine canon_map_eq ka.2 kb.2 fun k => ?_
        cases hx : hasF k a.fields with
        | none =>
          cases hu : hasF k b.fields with
          | none => rfl
          | some u =>
            exfalso
            have hk : k ∈ keysOf a.fields := sub_back ka.2 (fun y hy => by
              obtain ⟨kv, hkv, rfl⟩ := List.mem_map.1 hy
              exact hasF_keys.1 (h4 kv hkv)) (by unfold keysOf; rw [List.length_map, List.length_map]; omega) k (hasF_keys.1 (by rw [hu]; rfl))
            rw [← hasF_keys, hx] at hk
            cases hk
        | some x =>
          have hm := hasF_mem hx
          have h5 := h4 _ hm
          cases hu : hasF k b.fields with
          | none => rw [hu] at h5; cases h5
          | some u =>
            have h6 := List.flatMap_eq_nil_iff.1 h _ hm
            rw [hu] at h6
            exact congrArg some (dfr_nil hE d _ x u (ha.2.2 _ hm) (hb.2.2 _ (hasF_mem hu)) h6)
      · split at h
        · rename_i hal
          unfold lalike at hal
          simp only [Bool.and_eq_true, beq_iff_eq] at hal
          obtain ⟨⟨h1, h2⟩, h3⟩ := hal
          have hlen : a.list.length = b.list.length := by omega
          rw [ls_of ha.1.1 h1, ls_of hb.1.1 h2, canon_iff]
          refine ⟨rfl, rfl, ?_, rfl⟩
          show a.list.map canon = b.list.map canon
          refine List.ext_getElem (by rw [List.length_map, List.length_map, hlen]) fun i hi hj => ?_
          rw [List.length_map] at hi hj
          rw [List.getElem_map, List.getElem_map]
          have h6 := List.flatMap_eq_nil_iff.1 h i (List.mem_range.2 hi)
          have e1 : a.list.getD i nulV = a.list[i] := by rw [List.getD_eq_getElem?_getD, List.getElem?_eq_getElem hi]; rfl
          have e2 : b.list.getD i nulV = b.list[i] := by rw [List.getD_eq_getElem?_getD, List.getElem?_eq_getElem hj]; rfl
          rw [e1, e2] at h6
          exact dfr_nil hE d _ _ _ (ha.2.1 _ (List.getElem_mem _)) (hb.2.1 _ (List.getElem_mem _)) h6
        · cases h
theorem dfr_iff {E : V → V → Bool} (hE : ∀ x y, E x y = true ↔ canon x = canon y) {a b : V} (ha : Gok 48 a) (hb : Gok 48 b) : dfr E 48 [] a b = [] ↔ canon a = canon b :=
  ⟨dfr_nil hE 48 [] a b ha hb, fun h => by unfold dfr; rw [if_pos ((hE a b).2 h)]⟩
def GW (u : V) : Prop := Gok 48 u ∧ tsz 48 u ≤ 65536
theorem btw_way {E : V → V → Bool} (hE : ∀ x y, E x y = true ↔ canon x = canon y) {a b : V} (ha : Gok 48 a) (hb : Gok 48 b) (hs : tsz 48 a + tsz 48 b ≤ 65536) : ∃ z, Chn GW (btw E 48 [] a b) a z ∧ GW z ∧ canon z = canon b := by
  obtain ⟨z, h1, h2, h3, h4⟩ := btw_chn (G := GW) hE 48 [] (fun m => m) a b Ctp.id (fun m h1 h2 => ⟨h1, by omega⟩) ha hb
  exact ⟨z, h1, ⟨h2, by omega⟩, h4⟩
theorem btw_iff {E : V → V → Bool} (hE : ∀ x y, E x y = true ↔ canon x = canon y) {a b : V} (ha : Gok 48 a) (hb : Gok 48 b) (hs : tsz 48 a + tsz 48 b ≤ 65536) : btw E 48 [] a b = [] ↔ canon a = canon b := by
  constructor
  · intro h
    obtain ⟨z, h1, _, h4⟩ := btw_way hE ha hb hs
    rw [h] at h1
    have e : a = z := h1
    rw [e, h4]
  · exact fun h => btw_eq ((hE a b).2 h)
end Go.Proofs.Ytmkihcdcgkdilaa
end
section
namespace Go.Proofs.Ytmkihcdcgkdilaa
open Go Go.Dk Go.RowKit
set_option linter.unusedSimpArgs false
set_option linter.unusedVariables false
attribute [local irreducible] Go.wpList Go.Code.wp Go.bodyPost Go.wpStill
set_option maxRecDepth 10000 in
theorem c44 (cs : List Ch) (v z : V) (l : List Value) (s : Value) (A : Nat → Prop) (w0 : World) (hA : ∀ b, A b → b < w0.heap.size) (hch : Chn GW cs v z) (hcg : ∀ c ∈ cs, CGood c) (hlen : cs.length ≤ 4096) (hgv : GW v) (hv : RepV A w0 v l) (hs : ChsA A w0 s cs) : Fc Try.prog 44 [.agg l.toArray, s] w0 (fun x w' => ∃ r, x = .tuple #[.agg r.toArray, .int .i64 0, .int .i64 0] ∧ RepV (fun b => A b ∨ Fr w0 w' b) w' z r) := by
  have hvr := hv.len
  have cw := Ctx.start w0
  have hO1 := hs.form
  obtain ⟨a1, c1, bb1, o1, rfl, hfa1, hg1⟩ := hO1
  refine ret_enter Try.func44 rfl Try.ntmps44 rfl ?_
  have cx := Ctx.start w0
  refine wp_seq ?_
  refine wp_region_lit ?_
  refine s_box cx rfl rfl rfl rfl rfl ?_; intro b2 w cx hb2 hw2
  refine s_alloc cx z33 rfl rfl rfl ?_; intro b4 w cx hb4 hw4
  refine s_val rfl rfl (v_assign rfl rfl) ?_
  refine s_val rfl rfl (v_assign rfl rfl) ?_
  refine wpList_nil ?_
  refine wp_seq ?_
  refine wp_seq ?_
  refine wp_region_lit ?_
  refine s_val rfl rfl (v_move rfl rfl) ?_
  refine s_fn cx (c70 cs _ _ ((hs.chs hA).up cx.ext) hlen hcg) Try.func70 rfl rfl rfl rfl rfl rfl ?_; intro q15 w cx hw15 hp15
  obtain rfl := hp15
  refine s_val rfl rfl (v_move rfl rfl) ?_
  refine s_val rfl rfl (v_extract rfl rfl rfl) ?_
  refine s_val rfl rfl (v_extract rfl rfl rfl) ?_
  refine s_val rfl rfl (v_assign rfl rfl) ?_
  refine s_val rfl rfl (v_assign rfl rfl) ?_
  refine wpList_nil ?_
  refine wp_seq ?_
  refine wp_region_lit ?_
  refine s_val rfl rfl (v_move rfl rfl) ?_
  refine s_val rfl rfl (v_cmp rfl rfl rfl rfl) ?_
  refine wpList_nil ?_
  refine c_split rfl (fun hc19 => ?_) (fun hc19 => ?_)
  · skip
    exfalso
    simp at hc19
  refine wp_skip ?_
  refine wp_seq ?_
  refine wp_seq ?_
  refine wp_region_lit ?_
  refine s_val rfl rfl (v_assign rfl rfl) ?_
  refine wpList_nil ?_
  refine wp_block ?_
  refine w_loop (fun k f w1 => ∃ (i : Nat) (u : V) (r : List Value), k + i = cs.length ∧ f 1 = .slice a1 cs.length c1 ∧ f 2 = .pointer (some ⟨b2, 0, none⟩) ∧ f 4 = .pointer (some ⟨b4, 0, none⟩) ∧ f 9 = .int .i64 (i : Nat) ∧ Cxr w0 w1 [(b4, .cells ([.int .i64 0, .bool false, .bool false, .string ByteArray.empty, .int .i64 0, .int .i64 0, .int .i64 0, .int .i64 0, .int .i64 0, .string ByteArray.empty, .slice none 0 0, .slice none 0 0, .slice none 0 0] : List Value).toArray 33), (b2, .cells r.toArray 33)] [] ∧ Chn GW (cs.drop i) u z ∧ GW u ∧ RepV (FX A w0.heap.size w1 [(b4, .cells ([.int .i64 0, .bool false, .bool false, .string ByteArray.empty, .int .i64 0, .int .i64 0, .int .i64 0, .int .i64 0, .int .i64 0, .string ByteArray.empty, .slice none 0 0, .slice none 0 0, .slice none 0 0] : List Value).toArray 33), (b2, .cells r.toArray 33)] []) w1 u r) (cs.length) ?_ ?_
  · skip
    exact ⟨0, v, l, by omega, rfl, rfl, rfl, rfl, cx, hch, hgv, fxE cw cx hA hv⟩
  intro gk5 f w hJ
  obtain ⟨i, u, r, hki, hs1, hs2, hs4, hs9, cx, hch1, hgu, hr⟩ := hJ
  have hlen0 := hlen
  refine wp_seq ?_
  refine wp_seq ?_
  refine wp_region_lit ?_
  refine s_val rfl rfl (v_move rfl hs9) ?_
  refine s_val rfl rfl (v_move rfl hs1) ?_
  refine s_val rfl rfl (v_lenSlice rfl rfl Try.underlying22) ?_
  refine s_val rfl rfl (v_cmp rfl rfl rfl rfl) ?_
  refine wpList_nil ?_
  refine c_split rfl (fun hc26 => ?_) (fun hc26 => ?_)
  · skip
    try simp only [bsl] at hc26
    have hx : cs[i]? = some cs[i] := List.getElem?_eq_getElem (by omega)
    have hO2 := hfa1 (by omega)
    obtain rfl := hO2
    have hx1 := hg1 i _ hx
    obtain ⟨r1, hr1, hk1⟩ := hx1
    have hn1 : r1.length = 29 := chA.len _ _ hk1
    rw [List.drop_eq_getElem_cons (by omega)] at hch1
    obtain ⟨u', hst, hgu', hch2⟩ := hch1
    have hcgi := hcg _ (List.getElem_mem (l := cs) (n := i) (by omega))
    have hfu := gok_fine hgu.1 (Nat.le_trans hgu.2 (by decide))
    have hfu' := gok_fine hgu'.1 (Nat.le_trans hgu'.2 (by decide))
    refine wp_skip ?_
    refine wp_seq ?_
    refine wp_block ?_
    refine w_cut (fun f w1 => ∃ (b10 : Nat) (r35 : List Value), f 1 = .slice (some ⟨bb1, o1, none⟩) cs.length c1 ∧ f 2 = .pointer (some ⟨b2, 0, none⟩) ∧ f 4 = .pointer (some ⟨b4, 0, none⟩) ∧ f 9 = .int .i64 (i : Nat) ∧ f 10 = .pointer (some ⟨b10, 0, none⟩) ∧ f 11 = .bool true ∧ Cxr w0 w1 [(b10, .cells r35.toArray 33), (b4, .cells ([.int .i64 0, .bool false, .bool false, .string ByteArray.empty, .int .i64 0, .int .i64 0, .int .i64 0, .int .i64 0, .int .i64 0, .string ByteArray.empty, .slice none 0 0, .slice none 0 0, .slice none 0 0] : List Value).toArray 33), (b2, .cells r.toArray 33)] [] ∧ RepV (FX A w0.heap.size w1 [(b10, .cells r35.toArray 33), (b4, .cells ([.int .i64 0, .bool false, .bool false, .string ByteArray.empty, .int .i64 0, .int .i64 0, .int .i64 0, .int .i64 0, .int .i64 0, .string ByteArray.empty, .slice none 0 0, .slice none 0 0, .slice none 0 0] : List Value).toArray 33), (b2, .cells r.toArray 33)] []) w1 u' r35) ?_ ?_
    · skip
      refine w_ord cx (cx.pick1 1 rfl) mixed [(0, 30), (1, 31), (2, 32), (3, 33), (4, 34)] #[true, true, true, true, true, false, false, false, false, false, false, false] (by kernel_rfl) (by kernel_rfl) (by kernel_rfl) (by kernel_rfl) ?_
      refine pu_one rfl (wnt_none rfl) (fun w cx => v_load rfl hs2 Try.underlying33 rfl sz33 (cx.row 0 rfl) hr.len) ?_
      refine pu_one rfl (wnt_none rfl) (fun w cx => v_move rfl hs1) ?_
      refine pu_one rfl (wnt_none rfl) (fun w cx => v_move rfl hs9) ?_
      refine pu_one rfl (wnt_none rfl) (fun w cx => v_ia Try.underlying22 sz35 rfl rfl rfl (by omega) (by omega)) ?_
      refine pu_one rfl (wnt_none rfl) (fun w cx => v_load rfl rfl Try.underlying35 rfl sz35 (hr1.up cx.ext) hn1) ?_
      refine pu_nil ?_; intro w cx hwD7
      replace hr := (Fz.belC cx hwD7).repA hr
      refine x_two (i := 5) (j := 9) (by kernel_rfl) rfl rfl ?_ ?_
      · skip
        have cxp := cx
        refine s_fn cx (c71 cs[i] u u' _ _ 48 _ _ FX.lt hst hcgi.pth hgu.1 hfu hcgi.fo hr (chgX cx hA hk1)) Try.func71 rfl rfl rfl rfl rfl rfl ?_; intro q35 w cx hw35 hp35
        obtain ⟨r35, rfl, hr35⟩ := hp35
        replace hr35 := FX.res cxp hw35 cxp.ext.size hr35
        replace hr := (Fz.belC cx hw35).repA hr
        refine x_next ⟨.inr (by kernel_rfl), ?_⟩
        refine x_two (i := 6) (j := 9) (by kernel_rfl) rfl rfl ?_ ?_
        · skip
          refine s_val rfl rfl (v_move rfl rfl) ?_
          refine x_next ⟨.inr (by kernel_rfl), ?_⟩
          refine x_three (i := 7) (j := 8) (m := 9) (by kernel_rfl) rfl rfl rfl ?_ ?_ ?_
          · skip
            refine s_val rfl rfl (v_extract rfl rfl rfl) ?_
            refine x_next ⟨.inr (by kernel_rfl), ?_⟩
            refine x_two (i := 8) (j := 9) (by kernel_rfl) rfl rfl ?_ ?_
            · skip
              refine s_val rfl rfl (v_extract rfl rfl rfl) ?_
              refine x_next ⟨.inr (by kernel_rfl), ?_⟩
              refine x_one (i := 9) (by kernel_rfl) rfl ?_
              refine s_alloc cx z33 rfl rfl rfl ?_; intro b10 w cx hb10 hw10
              replace hr := (Fz.newC cx hb10 hw10).repA hr
              try replace hr35 := (Fz.newC cx hb10 hw10).repA hr35
              refine x_next ⟨.inl (cx.pick1 2 rfl), ?_⟩
              refine x_one (i := 10) (by kernel_rfl) rfl ?_
              have cxp := cx
              refine s_storeAllG cx 0 rfl rfl rfl rfl rfl rfl (by rw [hr35.len]; exact sz33) (by rw [hr35.len]; rfl) hr35.one ?_; intro w cx hg7
              replace hr35 := (Fz.set (L := (b10, .cells ([.int .i64 0, .bool false, .bool false, .string ByteArray.empty, .int .i64 0, .int .i64 0, .int .i64 0, .int .i64 0, .int .i64 0, .string ByteArray.empty, .slice none 0 0, .slice none 0 0, .slice none 0 0] : List Value).toArray 33) :: [(b4, .cells ([.int .i64 0, .bool false, .bool false, .string ByteArray.empty, .int .i64 0, .int .i64 0, .int .i64 0, .int .i64 0, .int .i64 0, .string ByteArray.empty, .slice none 0 0, .slice none 0 0, .slice none 0 0] : List Value).toArray 33), (b2, .cells r.toArray 33)]) (R := []) (i := 0) (o' := .cells r35.toArray 33) rfl hg7).repA hr35
              replace cx := cx.set0
              refine x_next ⟨.inr (by kernel_rfl), ?_⟩
              refine x_one (i := 11) (by kernel_rfl) rfl ?_
              refine s_val rfl rfl (v_assign rfl rfl) ?_
              refine x_next ⟨.inr (by kernel_rfl), ?_⟩
              refine x_done (by kernel_rfl) ?_
              exact ⟨_, rfl, b10, r35, hs1, hs2, hs4, hs9, rfl, rfl, cx, hr35⟩
            refine s_alloc cx z33 rfl rfl rfl ?_; intro b10 w cx hb10 hw10
            replace hr := (Fz.newC cx hb10 hw10).repA hr
            try replace hr35 := (Fz.newC cx hb10 hw10).repA hr35
            refine x_next ⟨.inl (cx.pick1 2 rfl), ?_⟩
            refine x_two (i := 8) (j := 10) (by kernel_rfl) rfl rfl ?_ ?_
            · skip
              refine s_val rfl rfl (v_extract rfl rfl rfl) ?_
              refine x_next ⟨.inr (by kernel_rfl), ?_⟩
              refine x_one (i := 10) (by kernel_rfl) rfl ?_
              have cxp := cx
              refine s_storeAllG cx 0 rfl rfl rfl rfl rfl rfl (by rw [hr35.len]; exact sz33) (by rw [hr35.len]; rfl) hr35.one ?_; intro w cx hg7
              replace hr35 := (Fz.set (L := (b10, .cells ([.int .i64 0, .bool false, .bool false, .string ByteArray.empty, .int .i64 0, .int .i64 0, .int .i64 0, .int .i64 0, .int .i64 0, .string ByteArray.empty, .slice none 0 0, .slice none 0 0, .slice none 0 0] : List Value).toArray 33) :: [(b4, .cells ([.int .i64 0, .bool false, .bool false, .string ByteArray.empty, .int .i64 0, .int .i64 0, .int .i64 0, .int .i64 0, .int .i64 0, .string ByteArray.empty, .slice none 0 0, .slice none 0 0, .slice none 0 0] : List Value).toArray 33), (b2, .cells r.toArray 33)]) (R := []) (i := 0) (o' := .cells r35.toArray 33) rfl hg7).repA hr35
              replace cx := cx.set0
              refine x_next ⟨.inr (by kernel_rfl), ?_⟩
              refine x_one (i := 11) (by kernel_rfl) rfl ?_
              refine s_val rfl rfl (v_assign rfl rfl) ?_
              refine x_next ⟨.inr (by kernel_rfl), ?_⟩
              refine x_done (by kernel_rfl) ?_
              exact ⟨_, rfl, b10, r35, hs1, hs2, hs4, hs9, rfl, rfl, cx, hr35⟩
            have cxp := cx
            refine s_storeAllG cx 0 rfl rfl rfl rfl rfl rfl (by rw [hr35.len]; exact sz33) (by rw [hr35.len]; rfl) hr35.one ?_; intro w cx hg7
            replace hr35 := (Fz.set (L := (b10, .cells ([.int .i64 0, .bool false, .bool false, .string ByteArray.empty, .int .i64 0, .int .i64 0, .int .i64 0, .int .i64 0, .int .i64 0, .string ByteArray.empty, .slice none 0 0, .slice none 0 0, .slice none 0 0] : List Value).toArray 33) :: [(b4, .cells ([.int .i64 0, .bool false, .bool false, .string ByteArray.empty, .int .i64 0, .int .i64 0, .int .i64 0, .int .i64 0, .int .i64 0, .string ByteArray.empty, .slice none 0 0, .slice none 0 0, .slice none 0 0] : List Value).toArray 33), (b2, .cells r.toArray 33)]) (R := []) (i := 0) (o' := .cells r35.toArray 33) rfl hg7).repA hr35
            replace cx := cx.set0
            refine x_next ⟨.inr (by kernel_rfl), ?_⟩
            refine x_one (i := 8) (by kernel_rfl) rfl ?_
            refine s_val rfl rfl (v_extract rfl rfl rfl) ?_
            refine x_next ⟨.inr (by kernel_rfl), ?_⟩
            refine x_one (i := 11) (by kernel_rfl) rfl ?_
            refine s_val rfl rfl (v_assign rfl rfl) ?_
            refine x_next ⟨.inr (by kernel_rfl), ?_⟩
            refine x_done (by kernel_rfl) ?_
            exact ⟨_, rfl, b10, r35, hs1, hs2, hs4, hs9, rfl, rfl, cx, hr35⟩
          · skip
            refine s_val rfl rfl (v_extract rfl rfl rfl) ?_
            refine x_next ⟨.inr (by kernel_rfl), ?_⟩
            refine x_two (i := 7) (j := 9) (by kernel_rfl) rfl rfl ?_ ?_
            · skip
              refine s_val rfl rfl (v_extract rfl rfl rfl) ?_
              refine x_next ⟨.inr (by kernel_rfl), ?_⟩
              refine x_one (i := 9) (by kernel_rfl) rfl ?_
              refine s_alloc cx z33 rfl rfl rfl ?_; intro b10 w cx hb10 hw10
              replace hr := (Fz.newC cx hb10 hw10).repA hr
              try replace hr35 := (Fz.newC cx hb10 hw10).repA hr35
              refine x_next ⟨.inl (cx.pick1 2 rfl), ?_⟩
              refine x_one (i := 10) (by kernel_rfl) rfl ?_
              have cxp := cx
              refine s_storeAllG cx 0 rfl rfl rfl rfl rfl rfl (by rw [hr35.len]; exact sz33) (by rw [hr35.len]; rfl) hr35.one ?_; intro w cx hg7
              replace hr35 := (Fz.set (L := (b10, .cells ([.int .i64 0, .bool false, .bool false, .string ByteArray.empty, .int .i64 0, .int .i64 0, .int .i64 0, .int .i64 0, .int .i64 0, .string ByteArray.empty, .slice none 0 0, .slice none 0 0, .slice none 0 0] : List Value).toArray 33) :: [(b4, .cells ([.int .i64 0, .bool false, .bool false, .string ByteArray.empty, .int .i64 0, .int .i64 0, .int .i64 0, .int .i64 0, .int .i64 0, .string ByteArray.empty, .slice none 0 0, .slice none 0 0, .slice none 0 0] : List Value).toArray 33), (b2, .cells r.toArray 33)]) (R := []) (i := 0) (o' := .cells r35.toArray 33) rfl hg7).repA hr35
              replace cx := cx.set0
              refine x_next ⟨.inr (by kernel_rfl), ?_⟩
              refine x_one (i := 11) (by kernel_rfl) rfl ?_
              refine s_val rfl rfl (v_assign rfl rfl) ?_
              refine x_next ⟨.inr (by kernel_rfl), ?_⟩
              refine x_done (by kernel_rfl) ?_
              exact ⟨_, rfl, b10, r35, hs1, hs2, hs4, hs9, rfl, rfl, cx, hr35⟩
            refine s_alloc cx z33 rfl rfl rfl ?_; intro b10 w cx hb10 hw10
            replace hr := (Fz.newC cx hb10 hw10).repA hr
            try replace hr35 := (Fz.newC cx hb10 hw10).repA hr35
            refine x_next ⟨.inl (cx.pick1 2 rfl), ?_⟩
            refine x_one (i := 7) (by kernel_rfl) rfl ?_
            refine s_val rfl rfl (v_extract rfl rfl rfl) ?_
            refine x_next ⟨.inr (by kernel_rfl), ?_⟩
            refine x_one (i := 10) (by kernel_rfl) rfl ?_
            have cxp := cx
            refine s_storeAllG cx 0 rfl rfl rfl rfl rfl rfl (by rw [hr35.len]; exact sz33) (by rw [hr35.len]; rfl) hr35.one ?_; intro w cx hg7
            replace hr35 := (Fz.set (L := (b10, .cells ([.int .i64 0, .bool false, .bool false, .string ByteArray.empty, .int .i64 0, .int .i64 0, .int .i64 0, .int .i64 0, .int .i64 0, .string ByteArray.empty, .slice none 0 0, .slice none 0 0, .slice none 0 0] : List Value).toArray 33) :: [(b4, .cells ([.int .i64 0, .bool false, .bool false, .string ByteArray.empty, .int .i64 0, .int .i64 0, .int .i64 0, .int .i64 0, .int .i64 0, .string ByteArray.empty, .slice none 0 0, .slice none 0 0, .slice none 0 0] : List Value).toArray 33), (b2, .cells r.toArray 33)]) (R := []) (i := 0) (o' := .cells r35.toArray 33) rfl hg7).repA hr35
            replace cx := cx.set0
            refine x_next ⟨.inr (by kernel_rfl), ?_⟩
            refine x_one (i := 11) (by kernel_rfl) rfl ?_
            refine s_val rfl rfl (v_assign rfl rfl) ?_
            refine x_next ⟨.inr (by kernel_rfl), ?_⟩
            refine x_done (by kernel_rfl) ?_
            exact ⟨_, rfl, b10, r35, hs1, hs2, hs4, hs9, rfl, rfl, cx, hr35⟩
          refine s_alloc cx z33 rfl rfl rfl ?_; intro b10 w cx hb10 hw10
          replace hr := (Fz.newC cx hb10 hw10).repA hr
          try replace hr35 := (Fz.newC cx hb10 hw10).repA hr35
          refine x_next ⟨.inl (cx.pick1 2 rfl), ?_⟩
          refine x_two (i := 7) (j := 8) (by kernel_rfl) rfl rfl ?_ ?_
          · skip
            refine s_val rfl rfl (v_extract rfl rfl rfl) ?_
            refine x_next ⟨.inr (by kernel_rfl), ?_⟩
            refine x_two (i := 8) (j := 10) (by kernel_rfl) rfl rfl ?_ ?_
            · skip
              refine s_val rfl rfl (v_extract rfl rfl rfl) ?_
              refine x_next ⟨.inr (by kernel_rfl), ?_⟩
              refine x_one (i := 10) (by kernel_rfl) rfl ?_
              have cxp := cx
              refine s_storeAllG cx 0 rfl rfl rfl rfl rfl rfl (by rw [hr35.len]; exact sz33) (by rw [hr35.len]; rfl) hr35.one ?_; intro w cx hg7
              replace hr35 := (Fz.set (L := (b10, .cells ([.int .i64 0, .bool false, .bool false, .string ByteArray.empty, .int .i64 0, .int .i64 0, .int .i64 0, .int .i64 0, .int .i64 0, .string ByteArray.empty, .slice none 0 0, .slice none 0 0, .slice none 0 0] : List Value).toArray 33) :: [(b4, .cells ([.int .i64 0, .bool false, .bool false, .string ByteArray.empty, .int .i64 0, .int .i64 0, .int .i64 0, .int .i64 0, .int .i64 0, .string ByteArray.empty, .slice none 0 0, .slice none 0 0, .slice none 0 0] : List Value).toArray 33), (b2, .cells r.toArray 33)]) (R := []) (i := 0) (o' := .cells r35.toArray 33) rfl hg7).repA hr35
              replace cx := cx.set0
              refine x_next ⟨.inr (by kernel_rfl), ?_⟩
              refine x_one (i := 11) (by kernel_rfl) rfl ?_
              refine s_val rfl rfl (v_assign rfl rfl) ?_
              refine x_next ⟨.inr (by kernel_rfl), ?_⟩
              refine x_done (by kernel_rfl) ?_
              exact ⟨_, rfl, b10, r35, hs1, hs2, hs4, hs9, rfl, rfl, cx, hr35⟩
            have cxp := cx
            refine s_storeAllG cx 0 rfl rfl rfl rfl rfl rfl (by rw [hr35.len]; exact sz33) (by rw [hr35.len]; rfl) hr35.one ?_; intro w cx hg7
            replace hr35 := (Fz.set (L := (b10, .cells ([.int .i64 0, .bool false, .bool false, .string ByteArray.empty, .int .i64 0, .int .i64 0, .int .i64 0, .int .i64 0, .int .i64 0, .string ByteArray.empty, .slice none 0 0, .slice none 0 0, .slice none 0 0] : List Value).toArray 33) :: [(b4, .cells ([.int .i64 0, .bool false, .bool false, .string ByteArray.empty, .int .i64 0, .int .i64 0, .int .i64 0, .int .i64 0, .int .i64 0, .string ByteArray.empty, .slice none 0 0, .slice none 0 0, .slice none 0 0] : List Value).toArray 33), (b2, .cells r.toArray 33)]) (R := []) (i := 0) (o' := .cells r35.toArray 33) rfl hg7).repA hr35
            replace cx := cx.set0
            refine x_next ⟨.inr (by kernel_rfl), ?_⟩
            refine x_one (i := 8) (by kernel_rfl) rfl ?_
            refine s_val rfl rfl (v_extract rfl rfl rfl) ?_
            refine x_next ⟨.inr (by kernel_rfl), ?_⟩
            refine x_one (i := 11) (by kernel_rfl) rfl ?_
            refine s_val rfl rfl (v_assign rfl rfl) ?_
            refine x_next ⟨.inr (by kernel_rfl), ?_⟩
            refine x_done (by kernel_rfl) ?_
            exact ⟨_, rfl, b10, r35, hs1, hs2, hs4, hs9, rfl, rfl, cx, hr35⟩
          refine s_val rfl rfl (v_extract rfl rfl rfl) ?_
          refine x_next ⟨.inr (by kernel_rfl), ?_⟩
          refine x_one (i := 7) (by kernel_rfl) rfl ?_
          refine s_val rfl rfl (v_extract rfl rfl rfl) ?_
          refine x_next ⟨.inr (by kernel_rfl), ?_⟩
          refine x_one (i := 10) (by kernel_rfl) rfl ?_
          have cxp := cx
          refine s_storeAllG cx 0 rfl rfl rfl rfl rfl rfl (by rw [hr35.len]; exact sz33) (by rw [hr35.len]; rfl) hr35.one ?_; intro w cx hg7
          replace hr35 := (Fz.set (L := (b10, .cells ([.int .i64 0, .bool false, .bool false, .string ByteArray.empty, .int .i64 0, .int .i64 0, .int .i64 0, .int .i64 0, .int .i64 0, .string ByteArray.empty, .slice none 0 0, .slice none 0 0, .slice none 0 0] : List Value).toArray 33) :: [(b4, .cells ([.int .i64 0, .bool false, .bool false, .string ByteArray.empty, .int .i64 0, .int .i64 0, .int .i64 0, .int .i64 0, .int .i64 0, .string ByteArray.empty, .slice none 0 0, .slice none 0 0, .slice none 0 0] : List Value).toArray 33), (b2, .cells r.toArray 33)]) (R := []) (i := 0) (o' := .cells r35.toArray 33) rfl hg7).repA hr35
          replace cx := cx.set0
          refine x_next ⟨.inr (by kernel_rfl), ?_⟩
          refine x_one (i := 11) (by kernel_rfl) rfl ?_
          refine s_val rfl rfl (v_assign rfl rfl) ?_
          refine x_next ⟨.inr (by kernel_rfl), ?_⟩
          refine x_done (by kernel_rfl) ?_
          exact ⟨_, rfl, b10, r35, hs1, hs2, hs4, hs9, rfl, rfl, cx, hr35⟩
        refine s_alloc cx z33 rfl rfl rfl ?_; intro b10 w cx hb10 hw10
        replace hr := (Fz.newC cx hb10 hw10).repA hr
        try replace hr35 := (Fz.newC cx hb10 hw10).repA hr35
        refine x_next ⟨.inl (cx.pick1 2 rfl), ?_⟩
        refine x_one (i := 6) (by kernel_rfl) rfl ?_
        refine s_val rfl rfl (v_move rfl rfl) ?_
        refine x_next ⟨.inr (by kernel_rfl), ?_⟩
        refine x_two (i := 7) (j := 8) (by kernel_rfl) rfl rfl ?_ ?_
        · skip
          refine s_val rfl rfl (v_extract rfl rfl rfl) ?_
          refine x_next ⟨.inr (by kernel_rfl), ?_⟩
          refine x_two (i := 8) (j := 10) (by kernel_rfl) rfl rfl ?_ ?_
          · skip
            refine s_val rfl rfl (v_extract rfl rfl rfl) ?_
            refine x_next ⟨.inr (by kernel_rfl), ?_⟩
            refine x_one (i := 10) (by kernel_rfl) rfl ?_
            have cxp := cx
            refine s_storeAllG cx 0 rfl rfl rfl rfl rfl rfl (by rw [hr35.len]; exact sz33) (by rw [hr35.len]; rfl) hr35.one ?_; intro w cx hg7
            replace hr35 := (Fz.set (L := (b10, .cells ([.int .i64 0, .bool false, .bool false, .string ByteArray.empty, .int .i64 0, .int .i64 0, .int .i64 0, .int .i64 0, .int .i64 0, .string ByteArray.empty, .slice none 0 0, .slice none 0 0, .slice none 0 0] : List Value).toArray 33) :: [(b4, .cells ([.int .i64 0, .bool false, .bool false, .string ByteArray.empty, .int .i64 0, .int .i64 0, .int .i64 0, .int .i64 0, .int .i64 0, .string ByteArray.empty, .slice none 0 0, .slice none 0 0, .slice none 0 0] : List Value).toArray 33), (b2, .cells r.toArray 33)]) (R := []) (i := 0) (o' := .cells r35.toArray 33) rfl hg7).repA hr35
            replace cx := cx.set0
            refine x_next ⟨.inr (by kernel_rfl), ?_⟩
            refine x_one (i := 11) (by kernel_rfl) rfl ?_
            refine s_val rfl rfl (v_assign rfl rfl) ?_
            refine x_next ⟨.inr (by kernel_rfl), ?_⟩
            refine x_done (by kernel_rfl) ?_
            exact ⟨_, rfl, b10, r35, hs1, hs2, hs4, hs9, rfl, rfl, cx, hr35⟩
          have cxp := cx
          refine s_storeAllG cx 0 rfl rfl rfl rfl rfl rfl (by rw [hr35.len]; exact sz33) (by rw [hr35.len]; rfl) hr35.one ?_; intro w cx hg7
          replace hr35 := (Fz.set (L := (b10, .cells ([.int .i64 0, .bool false, .bool false, .string ByteArray.empty, .int .i64 0, .int .i64 0, .int .i64 0, .int .i64 0, .int .i64 0, .string ByteArray.empty, .slice none 0 0, .slice none 0 0, .slice none 0 0] : List Value).toArray 33) :: [(b4, .cells ([.int .i64 0, .bool false, .bool false, .string ByteArray.empty, .int .i64 0, .int .i64 0, .int .i64 0, .int .i64 0, .int .i64 0, .string ByteArray.empty, .slice none 0 0, .slice none 0 0, .slice none 0 0] : List Value).toArray 33), (b2, .cells r.toArray 33)]) (R := []) (i := 0) (o' := .cells r35.toArray 33) rfl hg7).repA hr35
          replace cx := cx.set0
          refine x_next ⟨.inr (by kernel_rfl), ?_⟩
          refine x_one (i := 8) (by kernel_rfl) rfl ?_
          refine s_val rfl rfl (v_extract rfl rfl rfl) ?_
          refine x_next ⟨.inr (by kernel_rfl), ?_⟩
          refine x_one (i := 11) (by kernel_rfl) rfl ?_
          refine s_val rfl rfl (v_assign rfl rfl) ?_
          refine x_next ⟨.inr (by kernel_rfl), ?_⟩
          refine x_done (by kernel_rfl) ?_
          exact ⟨_, rfl, b10, r35, hs1, hs2, hs4, hs9, rfl, rfl, cx, hr35⟩
        refine s_val rfl rfl (v_extract rfl rfl rfl) ?_
        refine x_next ⟨.inr (by kernel_rfl), ?_⟩
        refine x_one (i := 7) (by kernel_rfl) rfl ?_
        refine s_val rfl rfl (v_extract rfl rfl rfl) ?_
        refine x_next ⟨.inr (by kernel_rfl), ?_⟩
        refine x_one (i := 10) (by kernel_rfl) rfl ?_
        have cxp := cx
        refine s_storeAllG cx 0 rfl rfl rfl rfl rfl rfl (by rw [hr35.len]; exact sz33) (by rw [hr35.len]; rfl) hr35.one ?_; intro w cx hg7
        replace hr35 := (Fz.set (L := (b10, .cells ([.int .i64 0, .bool false, .bool false, .string ByteArray.empty, .int .i64 0, .int .i64 0, .int .i64 0, .int .i64 0, .int .i64 0, .string ByteArray.empty, .slice none 0 0, .slice none 0 0, .slice none 0 0] : List Value).toArray 33) :: [(b4, .cells ([.int .i64 0, .bool false, .bool false, .string ByteArray.empty, .int .i64 0, .int .i64 0, .int .i64 0, .int .i64 0, .int .i64 0, .string ByteArray.empty, .slice none 0 0, .slice none 0 0, .slice none 0 0] : List Value).toArray 33), (b2, .cells r.toArray 33)]) (R := []) (i := 0) (o' := .cells r35.toArray 33) rfl hg7).repA hr35
        replace cx := cx.set0
        refine x_next ⟨.inr (by kernel_rfl), ?_⟩
        refine x_one (i := 11) (by kernel_rfl) rfl ?_
        refine s_val rfl rfl (v_assign rfl rfl) ?_
        refine x_next ⟨.inr (by kernel_rfl), ?_⟩
        refine x_done (by kernel_rfl) ?_
        exact ⟨_, rfl, b10, r35, hs1, hs2, hs4, hs9, rfl, rfl, cx, hr35⟩
      refine s_alloc cx z33 rfl rfl rfl ?_; intro b10 w cx hb10 hw10
      replace hr := (Fz.newC cx hb10 hw10).repA hr
      try replace hr35 := (Fz.newC cx hb10 hw10).repA hr35
      refine x_next ⟨.inl (cx.pick1 2 rfl), ?_⟩
      refine x_one (i := 5) (by kernel_rfl) rfl ?_
      have cxp := cx
      refine s_fn cx (c71 cs[i] u u' _ _ 48 _ _ FX.lt hst hcgi.pth hgu.1 hfu hcgi.fo hr (chgX cx hA hk1)) Try.func71 rfl rfl rfl rfl rfl rfl ?_; intro q35 w cx hw35 hp35
      obtain ⟨r35, rfl, hr35⟩ := hp35
      replace hr35 := FX.res cxp hw35 cxp.ext.size hr35
      replace hr := (Fz.belC cx hw35).repA hr
      refine x_next ⟨.inr (by kernel_rfl), ?_⟩
      refine x_one (i := 6) (by kernel_rfl) rfl ?_
      refine s_val rfl rfl (v_move rfl rfl) ?_
      refine x_next ⟨.inr (by kernel_rfl), ?_⟩
      refine x_two (i := 7) (j := 8) (by kernel_rfl) rfl rfl ?_ ?_
      · skip
        refine s_val rfl rfl (v_extract rfl rfl rfl) ?_
        refine x_next ⟨.inr (by kernel_rfl), ?_⟩
        refine x_two (i := 8) (j := 10) (by kernel_rfl) rfl rfl ?_ ?_
        · skip
          refine s_val rfl rfl (v_extract rfl rfl rfl) ?_
          refine x_next ⟨.inr (by kernel_rfl), ?_⟩
          refine x_one (i := 10) (by kernel_rfl) rfl ?_
          have cxp := cx
          refine s_storeAllG cx 0 rfl rfl rfl rfl rfl rfl (by rw [hr35.len]; exact sz33) (by rw [hr35.len]; rfl) hr35.one ?_; intro w cx hg7
          replace hr35 := (Fz.set (L := (b10, .cells ([.int .i64 0, .bool false, .bool false, .string ByteArray.empty, .int .i64 0, .int .i64 0, .int .i64 0, .int .i64 0, .int .i64 0, .string ByteArray.empty, .slice none 0 0, .slice none 0 0, .slice none 0 0] : List Value).toArray 33) :: [(b4, .cells ([.int .i64 0, .bool false, .bool false, .string ByteArray.empty, .int .i64 0, .int .i64 0, .int .i64 0, .int .i64 0, .int .i64 0, .string ByteArray.empty, .slice none 0 0, .slice none 0 0, .slice none 0 0] : List Value).toArray 33), (b2, .cells r.toArray 33)]) (R := []) (i := 0) (o' := .cells r35.toArray 33) rfl hg7).repA hr35
          replace cx := cx.set0
          refine x_next ⟨.inr (by kernel_rfl), ?_⟩
          refine x_one (i := 11) (by kernel_rfl) rfl ?_
          refine s_val rfl rfl (v_assign rfl rfl) ?_
          refine x_next ⟨.inr (by kernel_rfl), ?_⟩
          refine x_done (by kernel_rfl) ?_
          exact ⟨_, rfl, b10, r35, hs1, hs2, hs4, hs9, rfl, rfl, cx, hr35⟩
        have cxp := cx
        refine s_storeAllG cx 0 rfl rfl rfl rfl rfl rfl (by rw [hr35.len]; exact sz33) (by rw [hr35.len]; rfl) hr35.one ?_; intro w cx hg7
        replace hr35 := (Fz.set (L := (b10, .cells ([.int .i64 0, .bool false, .bool false, .string ByteArray.empty, .int .i64 0, .int .i64 0, .int .i64 0, .int .i64 0, .int .i64 0, .string ByteArray.empty, .slice none 0 0, .slice none 0 0, .slice none 0 0] : List Value).toArray 33) :: [(b4, .cells ([.int .i64 0, .bool false, .bool false, .string ByteArray.empty, .int .i64 0, .int .i64 0, .int .i64 0, .int .i64 0, .int .i64 0, .string ByteArray.empty, .slice none 0 0, .slice none 0 0, .slice none 0 0] : List Value).toArray 33), (b2, .cells r.toArray 33)]) (R := []) (i := 0) (o' := .cells r35.toArray 33) rfl hg7).repA hr35
        replace cx := cx.set0
        refine x_next ⟨.inr (by kernel_rfl), ?_⟩
        refine x_one (i := 8) (by kernel_rfl) rfl ?_
        refine s_val rfl rfl (v_extract rfl rfl rfl) ?_
        refine x_next ⟨.inr (by kernel_rfl), ?_⟩
        refine x_one (i := 11) (by kernel_rfl) rfl ?_
        refine s_val rfl rfl (v_assign rfl rfl) ?_
        refine x_next ⟨.inr (by kernel_rfl), ?_⟩
        refine x_done (by kernel_rfl) ?_
        exact ⟨_, rfl, b10, r35, hs1, hs2, hs4, hs9, rfl, rfl, cx, hr35⟩
      refine s_val rfl rfl (v_extract rfl rfl rfl) ?_
      refine x_next ⟨.inr (by kernel_rfl), ?_⟩
      refine x_one (i := 7) (by kernel_rfl) rfl ?_
      refine s_val rfl rfl (v_extract rfl rfl rfl) ?_
      refine x_next ⟨.inr (by kernel_rfl), ?_⟩
      refine x_one (i := 10) (by kernel_rfl) rfl ?_
      have cxp := cx
      refine s_storeAllG cx 0 rfl rfl rfl rfl rfl rfl (by rw [hr35.len]; exact sz33) (by rw [hr35.len]; rfl) hr35.one ?_; intro w cx hg7
      replace hr35 := (Fz.set (L := (b10, .cells ([.int .i64 0, .bool false, .bool false, .string ByteArray.empty, .int .i64 0, .int .i64 0, .int .i64 0, .int .i64 0, .int .i64 0, .string ByteArray.empty, .slice none 0 0, .slice none 0 0, .slice none 0 0] : List Value).toArray 33) :: [(b4, .cells ([.int .i64 0, .bool false, .bool false, .string ByteArray.empty, .int .i64 0, .int .i64 0, .int .i64 0, .int .i64 0, .int .i64 0, .string ByteArray.empty, .slice none 0 0, .slice none 0 0, .slice none 0 0] : List Value).toArray 33), (b2, .cells r.toArray 33)]) (R := []) (i := 0) (o' := .cells r35.toArray 33) rfl hg7).repA hr35
      replace cx := cx.set0
      refine x_next ⟨.inr (by kernel_rfl), ?_⟩
      refine x_one (i := 11) (by kernel_rfl) rfl ?_
      refine s_val rfl rfl (v_assign rfl rfl) ?_
      refine x_next ⟨.inr (by kernel_rfl), ?_⟩
      refine x_done (by kernel_rfl) ?_
      exact ⟨_, rfl, b10, r35, hs1, hs2, hs4, hs9, rfl, rfl, cx, hr35⟩
    intro f w hJ
    obtain ⟨b10, r35, hs1, hs2, hs4, hs9, hs10, hs11, cx, hr35⟩ := hJ
    refine wp_seq ?_
    refine wp_seq ?_
    refine wp_region_lit ?_
    refine s_val rfl rfl (v_move rfl hs11) ?_
    refine s_val rfl rfl (v_not rfl rfl) ?_
    refine wpList_nil ?_
    refine c_split rfl (fun hc39 => ?_) (fun hc39 => ?_)
    · skip
      exfalso
      simp at hc39
    refine wp_skip ?_
    refine wp_seq ?_
    refine wp_seq ?_
    refine wp_region_lit ?_
    refine s_val rfl rfl (v_load rfl hs10 Try.underlying33 rfl sz33 (cx.row 0 rfl) hr35.len) ?_
    refine s_fnI cx (c47x u' _ _ (RepV.vf hr35) hfu') Try.func47 rfl rfl rfl rfl rfl rfl ?_; intro q43 w cx hw43 hp43
    replace hr35 := (Fz.belC cx hw43).repA hr35
    refine s_val rfl rfl (v_assign rfl rfl) ?_
    refine wpList_nil ?_
    refine wp_seq ?_
    refine wp_region_lit ?_
    refine s_val rfl rfl (v_move rfl rfl) ?_
    refine s_val rfl rfl (v_cmp rfl rfl rfl rfl) ?_
    refine wpList_nil ?_
    refine c_split rfl (fun hc45 => ?_) (fun hc45 => ?_)
    · skip
      exfalso
      rw [hp43.2 hgu'.1 hgu'.2] at hc45
      cases hc45
    refine wp_skip ?_
    refine wp_region_lit ?_
    refine s_val rfl rfl (v_load rfl hs10 Try.underlying33 rfl sz33 (cx.row 0 rfl) hr35.len) ?_
    refine s_storeAllG cx 2 rfl rfl rfl hs2 rfl rfl (by rw [hr35.len]; exact sz33) (by rw [hr35.len]; exact hr.len) hr35.one ?_; intro w cx hg13
    replace hr35 := (Fz.set (L := [(b10, .cells r35.toArray 33), (b4, .cells ([.int .i64 0, .bool false, .bool false, .string ByteArray.empty, .int .i64 0, .int .i64 0, .int .i64 0, .int .i64 0, .int .i64 0, .string ByteArray.empty, .slice none 0 0, .slice none 0 0, .slice none 0 0] : List Value).toArray 33), (b2, .cells r.toArray 33)]) (R := []) (i := 2) (o' := .cells r35.toArray 33) rfl hg13).repA hr35
    replace hr35 := (Fz.dropL 1).repA hr35
    replace cx := cx.tl
    refine wpList_nil ?_
    refine wp_region_lit ?_
    refine s_val rfl rfl (v_move rfl hs9) ?_
    refine s_val rfl rfl (v_add rfl rfl rfl (by omega) (by omega)) ?_
    refine s_val rfl rfl (v_assign rfl rfl) ?_
    refine wpList_nil ?_
    exact ⟨gk5 - 1, _, by omega, rfl, i + 1, u', r35, by omega, hs1, hs2, hs4, rfl, cx, hch2, hgu', hr35⟩
  try simp only [bsl] at hc26
  refine wp_exit ?_
  refine wp_seq ?_
  refine wp_region_lit ?_
  refine s_val rfl rfl (v_load rfl hs2 Try.underlying33 rfl sz33 (cx.row 1 rfl) hr.len) ?_
  refine s_storeAllG cx 0 rfl rfl rfl hs4 rfl rfl (by rw [hr.len]; exact sz33) (by rw [hr.len]; rfl) hr.one ?_; intro w cx hg14
  replace hr := (Fz.set (L := [(b4, .cells ([.int .i64 0, .bool false, .bool false, .string ByteArray.empty, .int .i64 0, .int .i64 0, .int .i64 0, .int .i64 0, .int .i64 0, .string ByteArray.empty, .slice none 0 0, .slice none 0 0, .slice none 0 0] : List Value).toArray 33), (b2, .cells r.toArray 33)]) (R := []) (i := 0) (o' := .cells r.toArray 33) rfl hg14).repA hr
  refine s_val rfl rfl (v_assign rfl rfl) ?_
  refine s_val rfl rfl (v_assign rfl rfl) ?_
  refine wpList_nil ?_
  refine wp_ret ?_
  have hi : i = cs.length := by omega
  subst hi
  rw [List.drop_length] at hch1
  obtain rfl : u = z := hch1
  exact ret_cell3 Try.results44 hs4 rfl rfl (cx.at 0 rfl) Try.underlying33 rfl (by rw [hr.len]; exact sz33) ⟨cx.ext, _, rfl, FX.out hr⟩
end Go.Proofs.Ytmkihcdcgkdilaa
end
section
namespace Go.Proofs.Ytmkihcdcgkdilaa
open Go Go.Dk Go.RowKit
set_option linter.unusedSimpArgs false
set_option linter.unusedVariables false
attribute [local irreducible] Go.wpList Go.Code.wp Go.bodyPost Go.wpStill
theorem inv_snoc {cs : List Ch} {i : Nat} (h : i < cs.length) : ((cs.drop i).map invC).reverse = ((cs.drop (i + 1)).map invC).reverse ++ [invC cs[i]] := by
  rw [List.drop_eq_getElem_cons h, List.map_cons, List.reverse_cons]
theorem chA_of {A : Nat → Prop} {w : World} {c : Ch} {op pos : Int} {path : List Stp} {old new : V} {ps : Value} {o n : List Value} (h : c = ⟨op, path, pos, old, new⟩) (h1 : PthA A w ps path) (h2 : RepV A w old o) (h3 : RepV A w new n) : chA A w c (.int .i64 op :: ps :: .int .i64 pos :: (o ++ n)) := by
  subst h
  exact ⟨ps, o, n, rfl, h1, h2, h3⟩
theorem row_l {a b c : Value} {o n : List Value} (h : (a :: b :: c :: (o ++ n)).all (·.oneCell') = true) : o.all (·.oneCell') = true := by
  simp only [List.all_cons, List.all_append, Bool.and_eq_true] at h
  exact h.2.2.2.1
theorem row_r {a b c : Value} {o n : List Value} (h : (a :: b :: c :: (o ++ n)).all (·.oneCell') = true) : n.all (·.oneCell') = true := by
  simp only [List.all_cons, List.all_append, Bool.and_eq_true] at h
  exact h.2.2.2.2
theorem fzSetC {wb w w' : World} {b : Nat} {o o' : Obj} {L : List (Nat × Obj)} {R : List Row} (cx : Cxr wb w' ((b, o') :: L) R) (hg : w.grownBy w' (some b)) : Fz w ((b, o) :: L) R w' ((b, o') :: L) R := Fz.set (i := 0) rfl hg
theorem inv1 {c : Ch} (h : c.op = 1) : invC c = ⟨c.op, c.path, c.pos, c.new, c.old⟩ := by unfold invC; simp [h]
theorem inv2 {c : Ch} (h : c.op = 2) : invC c = ⟨3, c.path, c.pos, c.new, c.old⟩ := by unfold invC; simp [h]
theorem inv3 {c : Ch} (h : c.op = 3) : invC c = ⟨2, c.path, c.pos, c.new, c.old⟩ := by unfold invC; simp [h]
set_option maxRecDepth 10000 in
theorem c45 (cs : List Ch) (s : Value) (A : Nat → Prop) (w0 : World) (hA : ∀ b, A b → b < w0.heap.size) (hcg : ∀ c ∈ cs, CGood c) (hlen : cs.length ≤ 4096) (hs : ChsA A w0 s cs) : Fc Try.prog 45 [s] w0 (fun x w' => ChsA (fun b => A b ∨ Fr w0 w' b) w' x ((cs.map invC).reverse)) := by
  have hO1 := hs.form
  obtain ⟨a1, c1, bb1, o1, rfl, hfa1, hg1⟩ := hO1
  refine ret_enter Try.func45 rfl Try.ntmps45 rfl ?_
  have cx := Ctx.start w0
  refine wp_seq ?_
  refine wp_region_lit ?_
  refine s_val rfl rfl (v_assign rfl rfl) ?_
  refine wpList_nil ?_
  refine wp_seq ?_
  refine wp_region_lit ?_
  refine s_val rfl rfl (v_assign rfl rfl) ?_
  refine wpList_nil ?_
  refine wp_seq ?_
  refine wp_seq ?_
  refine wp_region_lit ?_
  replace cx := cx.nilRow 35 29
  refine s_val rfl rfl (v_move rfl rfl) ?_
  refine s_val rfl rfl (v_lenSlice rfl rfl Try.underlying22) ?_
  refine s_val rfl rfl (v_sub rfl rfl rfl (by omega) (by omega)) ?_
  refine s_val rfl rfl (v_assign rfl rfl) ?_
  refine wpList_nil ?_
  refine wp_block ?_
  refine w_loop (fun k f w1 => ∃ (m : Int) (x : Value) (S : List Ch) (rs : List (List Value)), m + 1 = k ∧ k ≤ cs.length ∧ f 0 = .slice a1 cs.length c1 ∧ f 3 = x ∧ f 4 = .int .i64 m ∧ S = ((cs.drop k).map invC).reverse ∧ Cxr w0 w1 [] [⟨35, 29, x, S.length, rs.flatten⟩] ∧ Rws (chA (FX A w0.heap.size w1 [] [⟨35, 29, x, S.length, rs.flatten⟩]) w1) S rs) (cs.length) ?_ ?_
  · skip
    exact ⟨(cs.length : Int) - 1, .slice none 0 0, [], [], by omega, Nat.le_refl _, rfl, rfl, rfl, by simp, cx, trivial⟩
  intro gk3 f w hJ
  obtain ⟨m, x, S, rs, hkm, hkl, hs0, hs3, hs4, hS, cx, hcf⟩ := hJ
  refine wp_seq ?_
  refine wp_seq ?_
  refine wp_region_lit ?_
  refine s_val rfl rfl (v_move rfl hs4) ?_
  refine s_val rfl rfl (v_cmp rfl rfl rfl rfl) ?_
  refine wpList_nil ?_
  refine c_split rfl (fun hc11 => ?_) (fun hc11 => ?_)
  · skip
    try simp only [bsl] at hc11
    have hO2 : ∃ i : Nat, m = (i : Int) := ⟨m.toNat, by omega⟩
    obtain ⟨i, rfl⟩ := hO2
    have hil : i < cs.length := by omega
    have hx : cs[i]? = some cs[i] := List.getElem?_eq_getElem hil
    have hO3 := hfa1 (by omega)
    obtain rfl := hO3
    have hx1 := hg1 i _ hx
    obtain ⟨r1, hr1, hk1⟩ := hx1
    have hcgi := hcg _ (List.getElem_mem (l := cs) (n := i) hil)
    have hg1' := hcgi.op1
    have hg3' := hcgi.op3
    have hone := chA.one _ _ (chgX cx hA hk1)
    have hkF := chgX cx hA hk1
    obtain ⟨ps, ro, rn, rfl, hkp, hko, hkn⟩ := hkF
    have hO4 := RepV.open hko
    obtain ⟨bo, lo, fo, rfl, _⟩ := hO4
    have hO5 := RepV.open hkn
    obtain ⟨bn, ln, fn, rfl, _⟩ := hO5
    have hSl : S.length + (i + 1) = cs.length := by rw [hS, List.length_reverse, List.length_map, List.length_drop]; omega
    have hh := Fz.refl w [] [(⟨35, 29, x, S.length, rs.flatten⟩ : Row)]
    refine wp_skip ?_
    refine wp_seq ?_
    refine wp_block ?_
    refine wp_seq ?_
    refine wp_region_lit ?_
    refine s_val rfl rfl (v_move rfl hs0) ?_
    refine s_val rfl rfl (v_move rfl hs4) ?_
    refine s_val rfl rfl (v_ia Try.underlying22 sz35 rfl rfl rfl (by omega) (by omega)) ?_
    refine s_val rfl rfl (v_load rfl rfl Try.underlying35 rfl sz35 (hr1.up cx.ext) rfl) ?_
    refine s_alloc cx z35 rfl rfl rfl ?_; intro b5 w cx hb5 hw5
    replace hh := hh.trans (Fz.newC cx hb5 hw5)
    refine s_storeAllG cx 0 rfl rfl rfl rfl rfl rfl sz35 rfl hone ?_; intro w cx hg5
    replace cx := cx.set0
    replace hh := hh.trans (fzSetC cx hg5)
    refine wpList_nil ?_
    refine wp_seq ?_
    refine wp_region_lit ?_
    refine s_val rfl rfl (v_load rfl rfl Try.underlying35 rfl sz35 (cx.row 0 rfl) rfl) ?_
    refine s_alloc cx z35 rfl rfl rfl ?_; intro b6 w cx hb6 hw6
    replace hh := hh.trans (Fz.newC cx hb6 hw6)
    refine s_storeAllG cx 0 rfl rfl rfl rfl rfl rfl sz35 rfl hone ?_; intro w cx hg6
    replace cx := cx.set0
    replace hh := hh.trans (fzSetC cx hg6)
    refine wpList_nil ?_
    refine wp_seq ?_
    refine wp_seq ?_
    refine wp_region_lit ?_
    refine s_val rfl rfl (v_fa fa35_0 rfl rfl) ?_
    refine s_val rfl rfl (v_load1 rfl rfl Try.underlying3 rfl (cx.cell 1 rfl rfl)) ?_
    refine wpList_nil ?_
    refine wp_block ?_
    refine wp_seq ?_
    refine wp_region_lit ?_
    refine s_val rfl rfl (v_cmp rfl rfl rfl rfl) ?_
    refine s_val rfl rfl (v_assign rfl rfl) ?_
    refine wpList_nil ?_
    refine c_split rfl (fun hc21 => ?_) (fun hc21 => ?_)
    · skip
      try simp only [bsl] at hc21
      have hI := inv2 hc21
      refine wp_region_lit ?_
      refine s_val rfl rfl (v_fa fa35_0 rfl rfl) ?_
      refine s_store1G (v := .int .i64 3) cx 0 rfl rfl rfl rfl rfl rfl rfl rfl rfl ?_; intro w cx hg9
      replace cx := cx.set0
      replace hh := hh.trans (fzSetC cx hg9)
      refine wpList_nil ?_
      refine wp_seq ?_
      refine wp_seq ?_
      refine wp_region_lit ?_
      refine s_val rfl rfl (v_fa fa35_0 rfl rfl) ?_
      refine s_val rfl rfl (v_load1 rfl rfl Try.underlying3 rfl (cx.cell 1 rfl rfl)) ?_
      refine s_val rfl rfl (v_cmp rfl rfl rfl rfl) ?_
      refine s_val rfl rfl (v_move rfl rfl) ?_
      refine s_gval rfl rfl rfl wF (fun hc => v_load rfl rfl Try.underlying35 rfl sz35 (cx.row 1 rfl) rfl) ?_
      refine s_gfnB cx rfl rfl rfl wF (fun hc => c72 cs[i] _ _ ((hk1.chg hA).up cx.ext)) Try.func72 rfl rfl rfl (fun hc => cons_eq (gve hc rfl) rfl) ?_; intro q32 w cx hw32 hp32
      replace hh := hh.trans (Fz.belC cx hw32)
      refine s_val rfl rfl (v_or rfl rfl rfl rfl) ?_
      refine wpList_nil ?_
      refine c_split rfl (fun hc33 => ?_) (fun hc33 => ?_)
      · skip
        refine wp_seq ?_
        refine wp_region_lit ?_
        refine s_val rfl rfl (v_fa fa35_4 rfl rfl) ?_
        refine s_val rfl rfl (v_load rfl rfl Try.underlying33 rfl sz33 ((cx.row 1 rfl).rv 16 rfl) rfl) ?_
        refine s_val rfl rfl (v_fa fa35_3 rfl rfl) ?_
        refine s_storeMid cx 0 rfl rfl rfl rfl rfl rfl sz33 (Nat.le_of_ble_eq_true rfl) (row_r hone) ?_; intro w cx hg13
        replace cx := cx.set0
        replace hh := hh.trans (fzSetC cx hg13)
        refine wpList_nil ?_
        refine wp_region_lit ?_
        refine s_val rfl rfl (v_fa fa35_3 rfl rfl) ?_
        refine s_val rfl rfl (v_load rfl rfl Try.underlying33 rfl sz33 ((cx.row 1 rfl).rv 3 rfl) rfl) ?_
        refine s_val rfl rfl (v_fa fa35_4 rfl rfl) ?_
        refine s_storeMid cx 0 rfl rfl rfl rfl rfl rfl sz33 (Nat.le_of_ble_eq_true rfl) (row_l hone) ?_; intro w cx hg14
        replace cx := cx.set0
        replace hh := hh.trans (fzSetC cx hg14)
        refine wpList_nil ?_
        refine wp_region_lit ?_
        refine s_val rfl rfl (v_move rfl hs3) ?_
        refine s_val rfl rfl (v_load rfl rfl Try.underlying35 rfl sz35 (cx.row 0 rfl) rfl) ?_
        refine s_bsl1 cx Try.underlying22 sz35 z35 rfl rfl rfl rfl rfl rfl rfl rfl ?_; intro b42 w cx hb42 hw42
        have hr42 := cx.row 0 rfl
        replace cx := cx.tl
        replace hh := hh.trans (Fz.belC cx hw42)
        have hcn := chA_of hI (hh.pthX hkp) (hh.repA hkn) (hh.repA hko)
        refine s_appendG (m := 1) cx ei35 Try.underlying22 rfl rfl rfl rfl rfl hr42 rfl (chA.one _ _ hcn) (by omega) ?_; intro v43 w cx hgr43 hnw43
        replace hh := hh.trans (Fz.appC cx hgr43 hnw43)
        replace hcn := (Fz.appC cx hgr43 hnw43).cha hcn
        refine s_val rfl rfl (v_assign rfl rfl) ?_
        refine wpList_nil ?_
        refine wp_region_lit ?_
        refine s_val rfl rfl (v_move rfl hs4) ?_
        refine s_val rfl rfl (v_sub rfl rfl rfl (by omega) (by omega)) ?_
        refine s_val rfl rfl (v_assign rfl rfl) ?_
        refine wpList_nil ?_
        refine ⟨gk3 - 1, _, by omega, rfl, (i : Int) - 1, v43, S ++ [invC cs[i]], rs ++ [(.int .i64 3 :: ps :: .int .i64 cs[i].pos :: (vrow cs[i].new.sc bn ln fn ++ vrow cs[i].old.sc bo lo fo))], by omega, by omega, hs0, rfl, rfl, ?_, ?_, ?_⟩
        · rw [hS, show gk3 = i + 1 by omega, Nat.add_sub_cancel, inv_snoc hil]
        · rw [List.length_append, List.length_singleton, List.flatten_append, List.flatten_singleton]
          exact cx.tl.tl
        · rw [List.length_append, List.length_singleton, List.flatten_append, List.flatten_singleton]
          refine Rws.append ((hh.trans (Fz.tl.trans Fz.tl)).chsX hcf) ⟨?_, trivial⟩
          exact (Fz.tl.trans Fz.tl).cha hcn
      exfalso
      rw [Bool.or_eq_false_iff, beq_eq_false_iff_ne] at hc33
      have h3 := hp32 (by rw [beq_eq_false_iff_ne.2 hc33.1]; rfl)
      rw [hc33.2] at h3
      have h4 := h3.symm
      rw [Bool.or_eq_false_iff, beq_eq_false_iff_ne, beq_eq_false_iff_ne] at h4
      omega
    try simp only [bsl] at hc21
    refine wp_seq ?_
    refine wp_region_lit ?_
    refine s_val rfl rfl (v_cmp rfl rfl rfl rfl) ?_
    refine s_val rfl rfl (v_assign rfl rfl) ?_
    refine wpList_nil ?_
    refine c_split rfl (fun hc24 => ?_) (fun hc24 => ?_)
    · skip
      try simp only [bsl] at hc24
      have hI := inv3 hc24
      refine wp_region_lit ?_
      refine s_val rfl rfl (v_fa fa35_0 rfl rfl) ?_
      refine s_store1G (v := .int .i64 2) cx 0 rfl rfl rfl rfl rfl rfl rfl rfl rfl ?_; intro w cx hg11
      replace cx := cx.set0
      replace hh := hh.trans (fzSetC cx hg11)
      refine wpList_nil ?_
      refine wp_seq ?_
      refine wp_seq ?_
      refine wp_region_lit ?_
      refine s_val rfl rfl (v_fa fa35_0 rfl rfl) ?_
      refine s_val rfl rfl (v_load1 rfl rfl Try.underlying3 rfl (cx.cell 1 rfl rfl)) ?_
      refine s_val rfl rfl (v_cmp rfl rfl rfl rfl) ?_
      refine s_val rfl rfl (v_move rfl rfl) ?_
      refine s_gval rfl rfl rfl wF (fun hc => v_load rfl rfl Try.underlying35 rfl sz35 (cx.row 1 rfl) rfl) ?_
      refine s_gfnB cx rfl rfl rfl wF (fun hc => c72 cs[i] _ _ ((hk1.chg hA).up cx.ext)) Try.func72 rfl rfl rfl (fun hc => cons_eq (gve hc rfl) rfl) ?_; intro q32 w cx hw32 hp32
      replace hh := hh.trans (Fz.belC cx hw32)
      refine s_val rfl rfl (v_or rfl rfl rfl rfl) ?_
      refine wpList_nil ?_
      refine c_split rfl (fun hc33 => ?_) (fun hc33 => ?_)
      · skip
        refine wp_seq ?_
        refine wp_region_lit ?_
        refine s_val rfl rfl (v_fa fa35_4 rfl rfl) ?_
        refine s_val rfl rfl (v_load rfl rfl Try.underlying33 rfl sz33 ((cx.row 1 rfl).rv 16 rfl) rfl) ?_
        refine s_val rfl rfl (v_fa fa35_3 rfl rfl) ?_
        refine s_storeMid cx 0 rfl rfl rfl rfl rfl rfl sz33 (Nat.le_of_ble_eq_true rfl) (row_r hone) ?_; intro w cx hg13
        replace cx := cx.set0
        replace hh := hh.trans (fzSetC cx hg13)
        refine wpList_nil ?_
        refine wp_region_lit ?_
        refine s_val rfl rfl (v_fa fa35_3 rfl rfl) ?_
        refine s_val rfl rfl (v_load rfl rfl Try.underlying33 rfl sz33 ((cx.row 1 rfl).rv 3 rfl) rfl) ?_
        refine s_val rfl rfl (v_fa fa35_4 rfl rfl) ?_
        refine s_storeMid cx 0 rfl rfl rfl rfl rfl rfl sz33 (Nat.le_of_ble_eq_true rfl) (row_l hone) ?_; intro w cx hg14
        replace cx := cx.set0
        replace hh := hh.trans (fzSetC cx hg14)
        refine wpList_nil ?_
        refine wp_region_lit ?_
        refine s_val rfl rfl (v_move rfl hs3) ?_
        refine s_val rfl rfl (v_load rfl rfl Try.underlying35 rfl sz35 (cx.row 0 rfl) rfl) ?_
        refine s_bsl1 cx Try.underlying22 sz35 z35 rfl rfl rfl rfl rfl rfl rfl rfl ?_; intro b42 w cx hb42 hw42
        have hr42 := cx.row 0 rfl
        replace cx := cx.tl
        replace hh := hh.trans (Fz.belC cx hw42)
        have hcn := chA_of hI (hh.pthX hkp) (hh.repA hkn) (hh.repA hko)
        refine s_appendG (m := 1) cx ei35 Try.underlying22 rfl rfl rfl rfl rfl hr42 rfl (chA.one _ _ hcn) (by omega) ?_; intro v43 w cx hgr43 hnw43
        replace hh := hh.trans (Fz.appC cx hgr43 hnw43)
        replace hcn := (Fz.appC cx hgr43 hnw43).cha hcn
        refine s_val rfl rfl (v_assign rfl rfl) ?_
        refine wpList_nil ?_
        refine wp_region_lit ?_
        refine s_val rfl rfl (v_move rfl hs4) ?_
        refine s_val rfl rfl (v_sub rfl rfl rfl (by omega) (by omega)) ?_
        refine s_val rfl rfl (v_assign rfl rfl) ?_
        refine wpList_nil ?_
        refine ⟨gk3 - 1, _, by omega, rfl, (i : Int) - 1, v43, S ++ [invC cs[i]], rs ++ [(.int .i64 2 :: ps :: .int .i64 cs[i].pos :: (vrow cs[i].new.sc bn ln fn ++ vrow cs[i].old.sc bo lo fo))], by omega, by omega, hs0, rfl, rfl, ?_, ?_, ?_⟩
        · rw [hS, show gk3 = i + 1 by omega, Nat.add_sub_cancel, inv_snoc hil]
        · rw [List.length_append, List.length_singleton, List.flatten_append, List.flatten_singleton]
          exact cx.tl.tl
        · rw [List.length_append, List.length_singleton, List.flatten_append, List.flatten_singleton]
          refine Rws.append ((hh.trans (Fz.tl.trans Fz.tl)).chsX hcf) ⟨?_, trivial⟩
          exact (Fz.tl.trans Fz.tl).cha hcn
      exfalso
      rw [Bool.or_eq_false_iff, beq_eq_false_iff_ne] at hc33
      have h3 := hp32 (by rw [beq_eq_false_iff_ne.2 hc33.1]; rfl)
      rw [hc33.2] at h3
      have h4 := h3.symm
      rw [Bool.or_eq_false_iff, beq_eq_false_iff_ne, beq_eq_false_iff_ne] at h4
      omega
    try simp only [bsl] at hc24
    have hI := inv1 (c := cs[i]) (by omega)
    refine wp_skip ?_
    refine wp_seq ?_
    refine wp_seq ?_
    refine wp_region_lit ?_
    refine s_val rfl rfl (v_fa fa35_0 rfl rfl) ?_
    refine s_val rfl rfl (v_load1 rfl rfl Try.underlying3 rfl (cx.cell 1 rfl rfl)) ?_
    refine s_val rfl rfl (v_cmp rfl rfl rfl rfl) ?_
    refine s_val rfl rfl (v_move rfl rfl) ?_
    refine s_gval rfl rfl rfl wF (fun hc => v_load rfl rfl Try.underlying35 rfl sz35 (cx.row 1 rfl) rfl) ?_
    refine s_gfnB cx rfl rfl rfl wF (fun hc => c72 cs[i] _ _ ((hk1.chg hA).up cx.ext)) Try.func72 rfl rfl rfl (fun hc => cons_eq (gve hc rfl) rfl) ?_; intro q32 w cx hw32 hp32
    replace hh := hh.trans (Fz.belC cx hw32)
    refine s_val rfl rfl (v_or rfl rfl rfl rfl) ?_
    refine wpList_nil ?_
    refine c_split rfl (fun hc33 => ?_) (fun hc33 => ?_)
    · skip
      refine wp_seq ?_
      refine wp_region_lit ?_
      refine s_val rfl rfl (v_fa fa35_4 rfl rfl) ?_
      refine s_val rfl rfl (v_load rfl rfl Try.underlying33 rfl sz33 ((cx.row 1 rfl).rv 16 rfl) rfl) ?_
      refine s_val rfl rfl (v_fa fa35_3 rfl rfl) ?_
      refine s_storeMid cx 0 rfl rfl rfl rfl rfl rfl sz33 (Nat.le_of_ble_eq_true rfl) (row_r hone) ?_; intro w cx hg13
      replace cx := cx.set0
      replace hh := hh.trans (fzSetC cx hg13)
      refine wpList_nil ?_
      refine wp_region_lit ?_
      refine s_val rfl rfl (v_fa fa35_3 rfl rfl) ?_
      refine s_val rfl rfl (v_load rfl rfl Try.underlying33 rfl sz33 ((cx.row 1 rfl).rv 3 rfl) rfl) ?_
      refine s_val rfl rfl (v_fa fa35_4 rfl rfl) ?_
      refine s_storeMid cx 0 rfl rfl rfl rfl rfl rfl sz33 (Nat.le_of_ble_eq_true rfl) (row_l hone) ?_; intro w cx hg14
      replace cx := cx.set0
      replace hh := hh.trans (fzSetC cx hg14)
      refine wpList_nil ?_
      refine wp_region_lit ?_
      refine s_val rfl rfl (v_move rfl hs3) ?_
      refine s_val rfl rfl (v_load rfl rfl Try.underlying35 rfl sz35 (cx.row 0 rfl) rfl) ?_
      refine s_bsl1 cx Try.underlying22 sz35 z35 rfl rfl rfl rfl rfl rfl rfl rfl ?_; intro b42 w cx hb42 hw42
      have hr42 := cx.row 0 rfl
      replace cx := cx.tl
      replace hh := hh.trans (Fz.belC cx hw42)
      have hcn := chA_of hI (hh.pthX hkp) (hh.repA hkn) (hh.repA hko)
      refine s_appendG (m := 1) cx ei35 Try.underlying22 rfl rfl rfl rfl rfl hr42 rfl (chA.one _ _ hcn) (by omega) ?_; intro v43 w cx hgr43 hnw43
      replace hh := hh.trans (Fz.appC cx hgr43 hnw43)
      replace hcn := (Fz.appC cx hgr43 hnw43).cha hcn
      refine s_val rfl rfl (v_assign rfl rfl) ?_
      refine wpList_nil ?_
      refine wp_region_lit ?_
      refine s_val rfl rfl (v_move rfl hs4) ?_
      refine s_val rfl rfl (v_sub rfl rfl rfl (by omega) (by omega)) ?_
      refine s_val rfl rfl (v_assign rfl rfl) ?_
      refine wpList_nil ?_
      refine ⟨gk3 - 1, _, by omega, rfl, (i : Int) - 1, v43, S ++ [invC cs[i]], rs ++ [(.int .i64 cs[i].op :: ps :: .int .i64 cs[i].pos :: (vrow cs[i].new.sc bn ln fn ++ vrow cs[i].old.sc bo lo fo))], by omega, by omega, hs0, rfl, rfl, ?_, ?_, ?_⟩
      · rw [hS, show gk3 = i + 1 by omega, Nat.add_sub_cancel, inv_snoc hil]
      · rw [List.length_append, List.length_singleton, List.flatten_append, List.flatten_singleton]
        exact cx.tl.tl
      · rw [List.length_append, List.length_singleton, List.flatten_append, List.flatten_singleton]
        refine Rws.append ((hh.trans (Fz.tl.trans Fz.tl)).chsX hcf) ⟨?_, trivial⟩
        exact (Fz.tl.trans Fz.tl).cha hcn
    exfalso
    rw [Bool.or_eq_false_iff, beq_eq_false_iff_ne] at hc33
    have h3 := hp32 (by rw [beq_eq_false_iff_ne.2 hc33.1]; rfl)
    rw [hc33.2] at h3
    have h4 := h3.symm
    rw [Bool.or_eq_false_iff, beq_eq_false_iff_ne, beq_eq_false_iff_ne] at h4
    omega
  try simp only [bsl] at hc11
  refine wp_exit ?_
  refine wp_seq ?_
  refine wp_region_lit ?_
  refine s_val rfl rfl (v_move rfl hs3) ?_
  refine s_val rfl rfl (v_assign rfl rfl) ?_
  refine wpList_nil ?_
  refine wp_ret ?_
  refine ret_tmp Try.results45 rfl ?_
  have h0 : gk3 = 0 := by omega
  subst h0
  rw [List.drop_zero] at hS
  subst hS
  exact ⟨cx.ext, chsA_of cx rfl rfl hcf⟩
end Go.Proofs.Ytmkihcdcgkdilaa
end
section
set_option linter.unusedVariables false
namespace Go.Dk
open Go Go.RowKit
section
variable {P : Program} {Q : Exit → Act → World → Prop} {w w0 wk : World} {L : List (Nat × Obj)} {R : List Row} {n : Nat} {f : Nat → Value}
theorem w_ordK {id : Nat} {l : List Oper} {Ls : List (Nat × Obj)} {C : Nat → Prop} (cx : Cxr w0 w L R) (cxS : Cxr w0 w Ls []) (hK : Keeps C wk w) (hm : P.follows .mixedOrders = true) (pu : List (Nat × Nat)) (m : Array Bool)
    (hch : chkOrd l.toArray pu = true) (hmk : mskOrd l.toArray pu m = true) (hn : pu.all (fun p => Nat.blt p.2 n) = true) (hi : incr pu = true)
    (h : wpPu P l.toArray n (fun w' => Cxr w0 w' Ls [] ∧ Keeps C wk w') (fun g => ∀ w', Cxr w0 w' L R → Below w.heap.size w w' → Keeps C wk w' → wpX P l.toArray pu Q (fun w' => Cxr w0 w' Ls [] ∧ Keeps C wk w') (l.length + 1) m (St n g) w') pu f) : (Code.region id l.toArray true).wp P Q (St n f) w := by
  obtain ⟨g, hF, hag, hall⟩ := wpPu_spec hch pu f (fun _ h => h) hi h
  refine w_orders cx hm pu m (fun w' => Cxr w0 w' Ls [] ∧ Keeps C wk w') g hch hmk (fun p hp => by have := List.all_eq_true.1 hn p hp; simpa using this) hag (fun p hp => ?_) (fun w' hS p hp => ?_) fun w' hc hb he => ?_
  · obtain ⟨o, h1, h2, _⟩ := hall p hp; exact ⟨o, by simpa using h1, h2⟩
  · obtain ⟨o, h1, _, h2⟩ := hall p hp; exact ⟨o, by simpa using h1, h2 w' hS⟩
  · have hk : Keeps C wk w' := fun b hb => by rw [he]; exact hK b hb
    exact ⟨⟨cxS.call hb, hk⟩, hF w' hc hb hk⟩
end
end Go.Dk
end
section
namespace Go.Proofs.Ytmkihcdcgkdilaa
open Go Go.Dk Go.RowKit
set_option linter.unusedSimpArgs false
set_option linter.unusedVariables false
attribute [local irreducible] Go.wpList Go.Code.wp Go.bodyPost Go.wpStill Go.wpQuiet
theorem rep_nul {A : Nat → Prop} {w : World} : RepV A w nulV (vrow (zk 0) (.slice none 0 0) (.slice none 0 0) (.slice none 0 0)) := RepV.mk (v := nulV) repB_nil repL_nil ⟨0, 0, .inl ⟨rfl, rfl⟩, trivial⟩
def Fp (w : World) (x : Value) (key : ByteArray) (fs : Fs) : Prop := ∃ pa pb rp, x = .pointer pa ∧ pa.isSome = (hasF key fs).isSome ∧ (pa.isSome = true → pa = some ⟨pb, 0, none⟩ ∧ RowAt w pb 0 rp ∧ Val w ((hasF key fs).getD nulV) rp)
end Go.Proofs.Ytmkihcdcgkdilaa
end
