/-
  Contract: Fields of the reference.
-/
import Derived.Test.YtmkihcdcgkdilaaSk
namespace Go.Proofs.Ytmkihcdcgkdilaa
open Go Go.Dk Go.RowKit
set_option linter.unusedSimpArgs false
set_option linter.unusedVariables false
attribute [local irreducible] Go.wpList Go.Code.wp Go.bodyPost Go.wpStill Go.wpQuiet
set_option maxRecDepth 10000 in
set_option maxHeartbeats 1600000 in
theorem c79 (A : Nat → Prop) (fs : Fs) (s : Value) (w0 : World) (hA : ∀ b, A b → b < w0.heap.size) (hv : RepF A w0 s fs) (hl : fs.length ≤ 1048576) : Fc Try.prog 79 [s] w0 (fun x w' => ∃ rs, w'.ownsRow w0.heap.size 77 14 x (sortF fs).length rs.flatten ∧ RowsF A w' (sortF fs) rs) := by
  obtain ⟨fb, fo, hsl, hreps⟩ := hv
  obtain ⟨fa, fc, rfl, hfa⟩ := hsl.form
  have hget := fun i kv h => RepFs.get fs fo i kv hreps h
  refine ret_enter Try.func79 rfl Try.ntmps79 rfl ?_
  have cx := Ctx.start w0
  refine wp_seq ?_
  refine wp_region_lit ?_
  refine s_val rfl rfl (v_assign rfl rfl) ?_
  refine wpList_nil ?_
  refine wp_seq ?_
  refine wp_region_lit ?_
  refine s_val rfl rfl (v_assign rfl rfl) ?_
  refine wpList_nil ?_
  refine wp_seq ?_
  refine wp_seq ?_
  refine wp_region_lit ?_
  replace cx := cx.nilRow 77 14
  refine s_val rfl rfl (v_assign rfl rfl) ?_
  refine wpList_nil ?_
  refine wp_block ?_
  refine w_loop (fun k f w1 => ∃ (i : Nat) (o : Fs) (x : Value) (rs : Els), k + i = fs.length ∧ f 0 = .slice fa fs.length fc ∧ f 4 = .int .i64 i ∧ f 3 = x ∧ o = (fs.take i).foldl (fun o kv => insF kv o) [] ∧ Cxr w0 w1 [] [⟨77, 14, x, o.length, rs.flatten⟩] ∧ RowsF A w0 o rs) (fs.length) ?_ ?_
  · skip
    exact ⟨0, [], _, [], by omega, rfl, rfl, rfl, rfl, cx, trivial⟩
  intro gk3 f w hJ
  obtain ⟨i, o, x, rs, hki, hs0, hs4, hs3, ho, cx, hrows⟩ := hJ
  refine wp_seq ?_
  refine wp_seq ?_
  refine wp_region_lit ?_
  refine s_val rfl rfl (v_move rfl hs4) ?_
  refine s_val rfl rfl (v_move rfl hs0) ?_
  refine s_val rfl rfl (v_lenSlice rfl rfl Try.underlying31) ?_
  refine s_val rfl rfl (v_cmp rfl rfl rfl rfl) ?_
  refine wpList_nil ?_
  refine c_split rfl (fun hc10 => ?_) (fun hc10 => ?_)
  · skip
    try simp only [Bool.and_eq_true, Bool.or_eq_true, Bool.and_eq_false_iff, Bool.or_eq_false_iff, Bool.not_eq_true', Bool.not_eq_false', decide_eq_true_eq, decide_eq_false_iff_not, beq_iff_eq, beq_eq_false_iff_ne, bne_iff_ne, bne_eq_false_iff_eq, ne_eq, Classical.not_not] at hc10
    obtain rfl := hfa (by omega)
    have hge : fs[i]? = some fs[i] := List.getElem?_eq_getElem (by omega)
    obtain ⟨r, hr, hrv⟩ := hget i fs[i] hge
    have hlz : (Value.string fs[i].1 :: r).length = 14 := by rw [List.length_cons, hrv.len]
    have hol : o.length = i := by
      rw [ho]
      have h1 := (fold_perm (fs.take i) []).length_eq
      rw [List.nil_append, List.length_take, Nat.min_eq_left (by omega)] at h1
      exact h1
    obtain ⟨xa, xc, rfl, hxg⟩ := cx.ownRow
    obtain ⟨g, hg⟩ : ∃ g : Nat, 0 < o.length → xa = some ⟨g, 0, none⟩ := by
      rcases Nat.eq_zero_or_pos o.length with h | h
      · exact ⟨0, fun h' => by omega⟩
      · obtain ⟨g, h1, _⟩ := hxg h
        exact ⟨g, fun _ => h1⟩
    refine wp_skip ?_
    refine wp_seq ?_
    refine wp_block ?_
    refine wp_seq ?_
    refine wp_region_lit ?_
    refine s_val rfl rfl (v_assign rfl rfl) ?_
    refine wpList_nil ?_
    refine wp_seq ?_
    refine wp_block ?_
    refine w_loop (fun k f w1 => ∃ j : Nat, k + j = o.length ∧ f 0 = .slice (some ⟨fb, fo, none⟩) fs.length fc ∧ f 4 = .int .i64 i ∧ f 3 = .slice xa o.length xc ∧ f 5 = .int .i64 j ∧ (∀ (j' : Nat) (x : ByteArray × V), j' < j → o[j']? = some x → kc x.1 fs[i].1 ≤ 0) ∧ Cxr w0 w1 [] [⟨77, 14, .slice xa o.length xc, o.length, rs.flatten⟩]) (o.length) ?_ ?_
    · skip
      exact ⟨0, by omega, hs0, hs4, hs3, rfl, fun j' x h => by omega, cx⟩
    intro gk6 f w hJ
    obtain ⟨j, hkj0, hs0, hs4, hs3, hs5, hall, cx⟩ := hJ
    have hjo : j ≤ o.length := by omega
    obtain ⟨kj, hkj⟩ : ∃ kj : ByteArray, ∀ x, o[j]? = some x → x.1 = kj := by
      cases h : o[j]? with
      | none => exact ⟨ByteArray.empty, fun x h => by cases h⟩
      | some y => exact ⟨y.1, fun x h => by rw [Option.some.inj h]⟩
    have hrj : j < o.length → ∃ l, rs[j]? = some (.string kj :: l) := fun h => by
      have h1 : o[j]? = some o[j] := List.getElem?_eq_getElem h
      obtain ⟨l, h2, _⟩ := RowsF.at _ _ j _ hrows h1
      rw [hkj _ h1] at h2
      exact ⟨l, h2⟩
    refine wp_seq ?_
    refine wp_seq ?_
    refine w_quiet cx mixed (by kernel_rfl) ?_
    skip
    refine q_val rfl rfl (fun w cx hwQ => v_move rfl hs5) ?_
    refine q_val rfl rfl (fun w cx hwQ => v_move rfl hs3) ?_
    refine q_val rfl rfl (fun w cx hwQ => v_lenSlice rfl rfl Try.underlying31) ?_
    refine q_val rfl rfl (fun w cx hwQ => v_cmp rfl rfl rfl rfl) ?_
    refine q_val rfl rfl (fun w cx hwQ => v_move rfl rfl) ?_
    refine q_gval rfl rfl rfl (by first | exact w_tt rfl | exact w_gt rfl) (fun hc w cx hwQ => v_move rfl hs3) ?_
    refine q_gval rfl rfl rfl (by first | exact w_tt rfl | exact w_gt rfl) (fun hc w cx hwQ => v_move rfl hs5) ?_
    refine q_gval rfl rfl rfl (by first | exact w_tt rfl | exact w_gt rfl) (fun hc w cx hwQ => v_ia (k := 0) Try.underlying31 sz77 rfl ((gve hc rfl).trans (congrArg (fun z => Value.slice z o.length xc) (hg (by have := of_decide_eq_true hc; omega)))) (gve hc rfl) (by omega) (by have := of_decide_eq_true hc; omega)) ?_
    refine q_gval rfl rfl rfl (by first | exact w_tt rfl | exact w_gt rfl) (fun hc w cx hwQ => v_fa fa77_0 rfl (by first | exact gve hc rfl | exact gve (and_l hc) rfl | exact gve (and_l (and_l hc)) rfl | rfl)) ?_
    refine q_gval rfl rfl rfl (by first | exact w_tt rfl | exact w_gt rfl) (fun hc w cx hwQ => v_load1 rfl (gve hc rfl) Try.underlying9 rfl (by have h0 := of_decide_eq_true hc; have h1 := hg (by omega); subst h1; obtain ⟨l, hl1⟩ := hrj (by omega); exact (RowAt.flat (A := A) (fs := o) (cx.rowOf (by omega)) (rows14 hrows) hl1).cell 0 rfl)) ?_
    refine q_gval rfl rfl rfl (by first | exact w_tt rfl | exact w_gt rfl) (fun hc w cx hwQ => v_move rfl hs0) ?_
    refine q_gval rfl rfl rfl (by first | exact w_tt rfl | exact w_gt rfl) (fun hc w cx hwQ => v_move rfl hs4) ?_
    refine q_gval rfl rfl rfl (by first | exact w_tt rfl | exact w_gt rfl) (fun hc w cx hwQ => v_ia Try.underlying31 sz77 rfl (gve hc rfl) (gve hc rfl) (by omega) (by omega)) ?_
    refine q_gval rfl rfl rfl (by first | exact w_tt rfl | exact w_gt rfl) (fun hc w cx hwQ => v_fa fa77_0 rfl (by first | exact gve hc rfl | exact gve (and_l hc) rfl | exact gve (and_l (and_l hc)) rfl | rfl)) ?_
    refine q_gval rfl rfl rfl (by first | exact w_tt rfl | exact w_gt rfl) (fun hc w cx hwQ => v_load1 rfl (gve hc rfl) Try.underlying9 rfl ((hr.up cx.ext).cell 0 rfl)) ?_
    refine q_gval rfl rfl rfl (by first | exact w_tt rfl | exact w_gt rfl) (fun hc w cx hwQ => v_strLe rfl (gve hc rfl) (gve hc rfl)) ?_
    refine q_val rfl rfl (fun w cx hwQ => v_and rfl rfl rfl rfl) ?_
    refine q_nil ?_; rintro w ⟨cx, hwQ6⟩
    refine c_split rfl (fun hc29 => ?_) (fun hc29 => ?_)
    · skip
      try simp only [Bool.and_eq_true, Bool.or_eq_true, Bool.and_eq_false_iff, Bool.or_eq_false_iff, Bool.not_eq_true', Bool.not_eq_false', decide_eq_true_eq, decide_eq_false_iff_not, beq_iff_eq, beq_eq_false_iff_ne, bne_iff_ne, bne_eq_false_iff_eq, ne_eq, Classical.not_not] at hc29
      obtain ⟨hcj, hcl⟩ := hc29
      refine wp_skip ?_
      refine wp_block ?_
      refine wp_region_lit ?_
      refine s_val rfl rfl (v_move rfl hs5) ?_
      refine s_val rfl rfl (v_add rfl rfl rfl (by omega) (by omega)) ?_
      refine s_val rfl rfl (v_assign rfl rfl) ?_
      refine wpList_nil ?_
      refine ⟨o.length - (j + 1), _, by omega, rfl, j + 1, by omega, hs0, hs4, hs3, rfl, fun j' x hj hx => ?_, cx⟩
      rcases Nat.lt_or_ge j' j with h | h
      · exact hall j' x h hx
      · obtain rfl : j' = j := by omega
        rw [hkj x hx]; exact hcl
    · skip
      try simp only [Bool.and_eq_true, Bool.or_eq_true, Bool.and_eq_false_iff, Bool.or_eq_false_iff, Bool.not_eq_true', Bool.not_eq_false', decide_eq_true_eq, decide_eq_false_iff_not, beq_iff_eq, beq_eq_false_iff_ne, bne_iff_ne, bne_eq_false_iff_eq, ne_eq, Classical.not_not] at hc29
      have hins : insF fs[i] o = o.take j ++ fs[i] :: o.drop j := insF_at o j hjo hall fun y hy => by
        have hjl := (List.getElem?_eq_some_iff.1 hy).1
        rw [hkj y hy]
        rcases hc29 with h | h
        · omega
        · exact h
      have hrl := (RowsF.length _ _ hrows).2
      obtain ⟨hft, hfd⟩ := flatk hrows j hjo
      refine wp_exit ?_
      refine wp_seq ?_
      refine wp_region_lit ?_
      refine s_bsl0 cx Try.underlying31 sz77 rfl rfl rfl ?_; intro b32 w cx hb32 hw32
      replace cx := cx.toRow (k := 0) (size := 14) (cs := []) rfl (by decide)
      obtain ⟨xa1, xc1, hxe1, hxc1, hsrc1, _⟩ := src_own (k := j) (n := o.length) (v := .slice xa o.length xc) (rs := rs) (e := 77) (B := w0.heap.size) (w := w) (cx.rows ⟨77, 14, .slice xa o.length xc, o.length, rs.flatten⟩ (by simp)) (rows14 hrows) hrl hjo
      simp only [Value.slice.injEq, true_and] at hxe1
      obtain ⟨rfl, rfl⟩ := hxe1
      refine s_val rfl rfl (v_move rfl hs3) ?_
      refine s_val rfl rfl (v_move rfl hs5) ?_
      refine s_val rfl rfl (v_slHi el31 es31 rfl rfl rfl (by omega) (by omega)) ?_
      refine s_appendS cx ei77 Try.underlying31 rfl rfl rfl rfl rfl hsrc1 hft (RowsF.one1 (RowsF.take _ _ j hrows)) (by omega) ?_; intro v36 w cx hgr36 hnw36
      refine s_val rfl rfl (v_assign rfl rfl) ?_
      refine wpList_nil ?_
      refine wp_seq ?_
      refine wp_region_lit ?_
      refine s_val rfl rfl (v_move rfl rfl) ?_
      refine s_val rfl rfl (v_move rfl hs0) ?_
      refine s_val rfl rfl (v_move rfl hs4) ?_
      refine s_val rfl rfl (v_ia Try.underlying31 sz77 rfl rfl rfl (by omega) (by omega)) ?_
      refine s_val rfl rfl (v_load rfl rfl Try.underlying77 rfl sz77 (hr.up cx.ext) hlz) ?_
      refine s_bsl1 cx Try.underlying31 sz77 z77 rfl rfl rfl rfl rfl rfl rfl hlz ?_; intro b42 w cx hb42 hw42
      refine s_appendG (m := 1) cx ei77 Try.underlying31 rfl rfl rfl rfl rfl (cx.row 0 rfl) hlz (by exact hrv.one) (by omega) ?_; intro v43 w cx hgr43 hnw43
      replace cx := cx.drop 1
      refine s_val rfl rfl (v_assign rfl rfl) ?_
      refine wpList_nil ?_
      refine wp_seq ?_
      refine wp_region_lit ?_
      obtain ⟨xa2, xc2, hxe2, _, _, hsrc2⟩ := src_own (k := j) (n := o.length) (v := .slice xa o.length xc) (rs := rs) (e := 77) (B := w0.heap.size) (w := w) (cx.rows ⟨77, 14, .slice xa o.length xc, o.length, rs.flatten⟩ (by simp)) (rows14 hrows) hrl hjo
      simp only [Value.slice.injEq, true_and] at hxe2
      obtain ⟨rfl, rfl⟩ := hxe2
      refine s_val rfl rfl (v_move rfl rfl) ?_
      refine s_val rfl rfl (v_move rfl hs3) ?_
      refine s_val rfl rfl (v_move rfl hs5) ?_
      refine s_val rfl rfl (v_slLo el31 es31 rfl rfl rfl (by omega) (by omega)) ?_
      refine s_appendS cx ei77 Try.underlying31 rfl rfl rfl rfl rfl hsrc2 hfd (RowsF.one1 (RowsF.drop _ _ j hrows)) (by omega) ?_; intro v48 w cx hgr48 hnw48
      have hfl : (rs.take j).flatten ++ (Value.string fs[i].1 :: r) ++ (rs.drop j).flatten = (rs.take j ++ (Value.string fs[i].1 :: r) :: rs.drop j).flatten := by simp
      have hnl : 0 + j + 1 + (o.length - j) = (insF fs[i] o).length := by rw [hins]; simp; omega
      rw [List.nil_append, hfl, hnl] at cx
      refine s_val rfl rfl (v_assign rfl rfl) ?_
      refine wpList_nil ?_
      refine wp_region_lit ?_
      refine s_val rfl rfl (v_move rfl rfl) ?_
      refine s_val rfl rfl (v_assign rfl rfl) ?_
      refine wpList_nil ?_
      refine wp_region_lit ?_
      refine s_val rfl rfl (v_move rfl hs4) ?_
      refine s_val rfl rfl (v_add rfl rfl rfl (by omega) (by omega)) ?_
      refine s_val rfl rfl (v_assign rfl rfl) ?_
      refine wpList_nil ?_
      refine ⟨gk3 - 1, _, by omega, rfl, i + 1, insF fs[i] o, v48, _, by omega, hs0, rfl, rfl, ?_, cx.first, ?_⟩
      · rw [List.take_succ_eq_append_getElem (by omega), List.foldl_append, ← ho]; rfl
      · rw [hins]
        exact RowsF.append _ _ _ _ (RowsF.take _ _ j hrows) ⟨⟨r, rfl, hrv⟩, RowsF.drop _ _ j hrows⟩
  · skip
    try simp only [Bool.and_eq_true, Bool.or_eq_true, Bool.and_eq_false_iff, Bool.or_eq_false_iff, Bool.not_eq_true', Bool.not_eq_false', decide_eq_true_eq, decide_eq_false_iff_not, beq_iff_eq, beq_eq_false_iff_ne, bne_iff_ne, bne_eq_false_iff_eq, ne_eq, Classical.not_not] at hc10
    refine wp_exit ?_
    refine wp_seq ?_
    refine wp_region_lit ?_
    refine s_val rfl rfl (v_move rfl hs3) ?_
    refine s_val rfl rfl (v_assign rfl rfl) ?_
    refine wpList_nil ?_
    refine wp_ret ?_
    refine ret_tmp Try.results79 rfl ?_
    have hi : i = fs.length := by omega
    subst hi
    rw [List.take_of_length_le (Nat.le_refl _)] at ho
    subst ho
    exact ⟨cx.ext, rs, cx.head, RowsF.mono (fun _ h => h) (fun b hb => cx.ext.block b (hA b hb)) _ _ hrows⟩
end Go.Proofs.Ytmkihcdcgkdilaa
