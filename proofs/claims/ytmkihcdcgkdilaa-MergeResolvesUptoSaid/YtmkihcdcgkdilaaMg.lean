/-
  Contract: the merge of the program.
-/
import Derived.Test.YtmkihcdcgkdilaaQa
import Derived.Test.YtmkihcdcgkdilaaMe
import Derived.Test.YtmkihcdcgkdilaaMf
import Derived.Test.YtmkihcdcgkdilaaPc
namespace Go.Proofs.Ytmkihcdcgkdilaa
open Go Go.Dk Go.RowKit
set_option linter.unusedSimpArgs false
set_option linter.unusedVariables false
attribute [local irreducible] Go.wpList Go.Code.wp Go.bodyPost Go.wpStill Go.wpQuiet
theorem bd94 (a0 a1 a2 a3 : Option Addr) (n0 n1 n2 n3 c0 c1 c2 c3 : Nat) (w : World) : (Instr.build 94 ([(0, .slice a0 n0 c0), (1, .slice a1 n1 c1), (2, .slice a2 n2 c2), (3, .slice a3 n3 c3)] : List (Nat × Value)).toArray).run Try.prog w = .ok (.agg #[.slice a0 n0 c0, .slice a1 n1 c1, .slice a2 n2 c2, .slice a3 n3 c3]) w := by
  go_simp

set_option maxRecDepth 10000 in
set_option maxHeartbeats 6400000 in
theorem c89 (E : V → V → Bool) (hE : ∀ x y, E x y = true ↔ canon x = canon y) (tk : List Bool) (htk : tk.length ≤ 1048576) (m : Nat) (hm : m ≤ 300000) : ∀ (d : Nat) (wb : World) (L : List (Nat × Obj)) (R : List Row) (i g : Nat) (v : Value) (n : Nat) (cs : List Value) (p : List Stp) (ps : Value) (b o t : OV) (x1 x2 x3 : Value) (fnb tkb : Nat) (w0 : World),
    Cxr wb w0 L (⟨94, 4, v, n, cs⟩ :: R) → L[i]? = some (g, .cells ([v] : List Value).toArray 50) → TkR (F w0 L (⟨94, 4, v, n, cs⟩ :: R)) w0 fnb g tkb tk → PthA (F w0 L (⟨94, 4, v, n, cs⟩ :: R)) w0 ps p → PtrO (F w0 L (⟨94, 4, v, n, cs⟩ :: R)) w0 x1 b → PtrO (F w0 L (⟨94, 4, v, n, cs⟩ :: R)) w0 x2 o → PtrO (F w0 L (⟨94, 4, v, n, cs⟩ :: R)) w0 x3 t → GdO d m b → GdO d m o → GdO d m t →
    (b.isSome || o.isSome || t.isSome) = true → p.length + d ≤ 100 → d ≤ 48 → n + (mg E tk d n p b o t).2.length ≤ 1048576 →
    Ret Try.prog 89 [ps, x1, x2, x3, .pointer (some ⟨fnb, 0, none⟩), .pointer (some ⟨g, 0, none⟩), .pointer (some ⟨tkb, 0, none⟩)] w0 (MgP wb w0 L R i g v n cs (mg E tk d n p b o t)) := by
  intro d
  induction d with
  | zero =>
    intro wb L R i g v n cs p ps b o t x1 x2 x3 fnb tkb w0 cx hi htkr hps hb ho ht hgb hgo hgt hne
    exfalso
    cases b with
    | some u => exact (hgb u rfl).ok
    | none =>
      cases o with
      | some u => exact (hgo u rfl).ok
      | none =>
        cases t with
        | some u => exact (hgt u rfl).ok
        | none => cases hne
  | succ d ih =>
  intro wb L R i g v n cs p ps b o t x1 x2 x3 fnb tkb w0 cx hi htkr hps hb ho ht hgb hgo hgt hne hpd hd48 hnb
  have hO1 : ∃ ks, ks = keysO b o t := ⟨_, rfl⟩
  obtain ⟨ks, hks⟩ := hO1
  have hil : i < L.length := (List.getElem?_eq_some_iff.1 hi).1
  have hO2 := cx.ownRow
  obtain ⟨va, vc, rfl, hvr⟩ := hO2
  have hO3 := id htkr
  obtain ⟨hFfn, hFN, hFtk, _⟩ := hO3
  have hO4 := hb.formV
  obtain ⟨a1, b1, bs1, ls1, fs1, rfl, ha1, hp1⟩ := hO4
  have hO5 := ho.formV
  obtain ⟨a2, b2, bs2, ls2, fs2, rfl, ha2, hp2⟩ := hO5
  have hO6 := ht.formV
  obtain ⟨a3, b3, bs3, ls3, fs3, rfl, ha3, hp3⟩ := hO6
  refine ret_enter Try.func89 rfl Try.ntmps89 rfl ?_
  skip
  refine wp_seq ?_
  refine wp_region_lit ?_
  refine s_val rfl rfl (v_assign rfl rfl) ?_
  refine wpList_nil ?_
  refine wp_seq ?_
  refine wp_block ?_
  refine wp_seq ?_
  refine wp_region_lit ?_
  refine s_val rfl rfl (v_move rfl rfl) ?_
  refine s_val rfl rfl (v_move rfl rfl) ?_
  refine s_fnB cx (c90 E hE _ (d + 1) m o t _ _ _ F.lt (by omega) ho ht hgo hgt) Try.func90 rfl rfl rfl rfl rfl rfl ?_; intro q20 w cx hw20 hp20
  have hz := Fz.below (L := L) (R := (⟨94, 4, .slice va n vc, n, cs⟩ :: R)) hw20
  refine s_val rfl rfl (v_move rfl rfl) ?_
  refine s_gval rfl rfl rfl (by first | exact w_ff rfl | exact w_gf rfl) (fun hc => v_move rfl (by first | exact gve hc rfl | exact gve (and_l hc) rfl | exact gve (and_l (and_l hc)) rfl | rfl)) ?_
  refine s_gval rfl rfl rfl (by first | exact w_ff rfl | exact w_gf rfl) (fun hc => v_move rfl (by first | exact gve hc rfl | exact gve (and_l hc) rfl | exact gve (and_l (and_l hc)) rfl | rfl)) ?_
  refine s_gfnB cx rfl rfl rfl (by first | exact w_ff rfl | exact w_gf rfl) (fun hc => c90 E hE _ (d + 1) m t b _ _ _ F.lt (by omega) (hz.ptr ht) (hz.ptr hb) hgt hgb) Try.func90 rfl rfl rfl (fun hc => (cons_eq (gve hc rfl) (cons_eq (gve hc rfl) rfl))) ?_; intro q24 w cx hw24 hp24
  replace hz := hz.trans (Fz.below hw24)
  refine s_val rfl rfl (v_or rfl rfl rfl rfl) ?_
  refine s_val rfl rfl (v_assign rfl rfl) ?_
  refine wpList_nil ?_
  refine c_split rfl (fun hc17 => ?_) (fun hc17 => ?_)
  · skip
    skip
    refine wp_seq ?_
    refine wp_region_lit ?_
    refine s_val rfl rfl (v_move rfl rfl) ?_
    refine s_val rfl rfl (v_assign rfl rfl) ?_
    refine wpList_nil ?_
    refine wp_ret ?_
    refine ret_tmp Try.results89 rfl ?_
    have hy1 : (eqO E o t || eqO E t b) = true := by
      cases hq : q20 with
      | true => rw [← hp20, hq]; rfl
      | false =>
        rw [hq] at hc17
        rw [← hp20, hq, ← hp24 (by rw [hq]; rfl)]; exact hc17
    refine MgP.cast (mg_1 hy1) ?_
    exact MgP.none hi cx hz (hz.ptr ho)
  · skip
    skip
    have hn1 : (eqO E o t || eqO E t b) = false := by
      rw [Bool.or_eq_false_iff] at hc17
      rw [← hp20, hc17.1, ← hp24 (by rw [hc17.1]; rfl), hc17.2]; rfl
    refine wp_seq ?_
    refine wp_region_lit ?_
    refine s_val rfl rfl (v_move rfl rfl) ?_
    refine s_val rfl rfl (v_move rfl rfl) ?_
    refine s_fnB cx (c90 E hE _ (d + 1) m o b _ _ _ F.lt (by omega) (hz.ptr ho) (hz.ptr hb) hgo hgb) Try.func90 rfl rfl rfl rfl rfl rfl ?_; intro q30 w cx hw30 hp30
    replace hz := hz.trans (Fz.below hw30)
    refine s_val rfl rfl (v_assign rfl rfl) ?_
    refine wpList_nil ?_
    refine c_split rfl (fun hc27 => ?_) (fun hc27 => ?_)
    · skip
      skip
      refine wp_seq ?_
      refine wp_region_lit ?_
      refine s_val rfl rfl (v_move rfl rfl) ?_
      refine s_val rfl rfl (v_assign rfl rfl) ?_
      refine wpList_nil ?_
      refine wp_ret ?_
      refine ret_tmp Try.results89 rfl ?_
      refine MgP.cast (mg_2 hn1 (by rw [← hp30]; exact hc27)) ?_
      exact MgP.none hi cx hz (hz.ptr ht)
    · skip
      skip
      have hn2 : eqO E o b = false := by rw [← hp30]; exact hc27
      refine wp_skip ?_
      refine wp_seq ?_
      refine wp_seq ?_
      refine wp_region_lit ?_
      refine s_val rfl rfl (v_move rfl rfl) ?_
      refine s_val rfl rfl (v_ptrNe rfl rfl rfl Try.underlying75) ?_
      refine s_val rfl rfl (v_move rfl rfl) ?_
      refine s_gval rfl rfl rfl (by first | exact w_tt rfl | exact w_gt rfl) (fun hc => v_move rfl (by first | exact gve hc rfl | exact gve (and_l hc) rfl | exact gve (and_l (and_l hc)) rfl | rfl)) ?_
      refine s_gval rfl rfl rfl (by first | exact w_tt rfl | exact w_gt rfl) (fun hc => v_ptrNe rfl (gve hc rfl) rfl Try.underlying75) ?_
      refine s_val rfl rfl (v_and rfl rfl rfl rfl) ?_
      refine s_val rfl rfl (v_move rfl rfl) ?_
      refine s_gval rfl rfl rfl (by first | exact w_tt rfl | exact w_gt rfl) (fun hc => v_move rfl (by first | exact gve hc rfl | exact gve (and_l hc) rfl | exact gve (and_l (and_l hc)) rfl | rfl)) ?_
      refine s_gval rfl rfl rfl (by first | exact w_tt rfl | exact w_gt rfl) (fun hc => v_nilCk rfl ((gve hc rfl).trans (congrArg Value.pointer (hp2 (by rw [← ha2]; exact and_l hc)).1))) ?_
      refine s_gval rfl rfl rfl (by first | exact w_tt rfl | exact w_gt rfl) (fun hc => v_fa fa33_0 rfl (gve hc rfl)) ?_
      refine s_gval rfl rfl rfl (by first | exact w_tt rfl | exact w_gt rfl) (fun hc => v_load1 rfl (gve hc rfl) Try.underlying3 rfl ((hz.row (hp2 (by rw [← ha2]; exact and_l hc)).2.2.1 (hp2 (by rw [← ha2]; exact and_l hc)).2.1).cell 0 rfl)) ?_
      refine s_gval rfl rfl rfl (by first | exact w_tt rfl | exact w_gt rfl) (fun hc => v_cmp rfl (gve hc rfl) rfl rfl) ?_
      refine s_val rfl rfl (v_and rfl rfl rfl rfl) ?_
      refine s_val rfl rfl (v_move rfl rfl) ?_
      refine s_gval rfl rfl rfl (by first | exact w_tt rfl | exact w_gt rfl) (fun hc => v_move rfl (by first | exact gve hc rfl | exact gve (and_l hc) rfl | exact gve (and_l (and_l hc)) rfl | rfl)) ?_
      refine s_gval rfl rfl rfl (by first | exact w_tt rfl | exact w_gt rfl) (fun hc => v_nilCk rfl ((gve hc rfl).trans (congrArg Value.pointer (hp3 (by rw [← ha3]; exact and_r (and_l hc))).1))) ?_
      refine s_gval rfl rfl rfl (by first | exact w_tt rfl | exact w_gt rfl) (fun hc => v_fa fa33_0 rfl (gve hc rfl)) ?_
      refine s_gval rfl rfl rfl (by first | exact w_tt rfl | exact w_gt rfl) (fun hc => v_load1 rfl (gve hc rfl) Try.underlying3 rfl ((hz.row (hp3 (by rw [← ha3]; exact and_r (and_l hc))).2.2.1 (hp3 (by rw [← ha3]; exact and_r (and_l hc))).2.1).cell 0 rfl)) ?_
      refine s_gval rfl rfl rfl (by first | exact w_tt rfl | exact w_gt rfl) (fun hc => v_cmp rfl (gve hc rfl) rfl rfl) ?_
      refine s_val rfl rfl (v_and rfl rfl rfl rfl) ?_
      refine s_val rfl rfl (v_move rfl rfl) ?_
      refine s_gval rfl rfl rfl (by first | exact w_tt rfl | exact w_gt rfl) (fun hc => v_move rfl (by first | exact gve hc rfl | exact gve (and_l hc) rfl | exact gve (and_l (and_l hc)) rfl | rfl)) ?_
      refine s_gval rfl rfl rfl (by first | exact w_tt rfl | exact w_gt rfl) (fun hc => v_ptrNil rfl (gve hc rfl) rfl Try.underlying75) ?_
      refine s_gval rfl rfl rfl (by first | exact w_tt rfl | exact w_gt rfl) (fun hc => v_move rfl (by first | exact gve hc rfl | exact gve (and_l hc) rfl | exact gve (and_l (and_l hc)) rfl | rfl)) ?_
      refine s_gval rfl rfl rfl (by first | exact w_ff rfl | exact w_gf rfl) (fun hc => v_move rfl (by first | exact gve hc rfl | exact gve (and_l hc) rfl | exact gve (and_l (and_l hc)) rfl | rfl)) ?_
      refine s_gval rfl rfl rfl (by first | exact w_ff rfl | exact w_gf rfl) (fun hc => v_nilCk rfl ((gve hc rfl).trans (congrArg Value.pointer (hp1 (by rw [← ha1]; have := and_r hc; cases a1 <;> simp_all)).1))) ?_
      refine s_gval rfl rfl rfl (by first | exact w_ff rfl | exact w_gf rfl) (fun hc => v_fa fa33_0 rfl (gve hc rfl)) ?_
      refine s_gval rfl rfl rfl (by first | exact w_ff rfl | exact w_gf rfl) (fun hc => v_load1 rfl (gve hc rfl) Try.underlying3 rfl ((hz.row (hp1 (by rw [← ha1]; have := and_r hc; cases a1 <;> simp_all)).2.2.1 (hp1 (by rw [← ha1]; have := and_r hc; cases a1 <;> simp_all)).2.1).cell 0 rfl)) ?_
      refine s_gval rfl rfl rfl (by first | exact w_ff rfl | exact w_gf rfl) (fun hc => v_cmp rfl (gve hc rfl) rfl rfl) ?_
      refine s_gval rfl rfl rfl (by first | exact w_tt rfl | exact w_gt rfl) (fun hc => v_or_g hc rfl rfl rfl rfl) ?_
      refine s_val rfl rfl (v_and rfl rfl rfl rfl) ?_
      refine wpList_nil ?_
      refine c_split rfl (fun hc62 => ?_) (fun hc62 => ?_)
      · skip
        skip
        have hmo : mapsO b o t = true := (maps_b ha1 ha2 ha3).symm.trans hc62
        rw [mg_3 hn1 hn2 hmo, ← hks] at hnb
        dsimp only at hnb
        refine wp_seq ?_
        refine wp_region_lit ?_
        refine s_val rfl rfl (v_build bd33m rfl rfl) ?_
        refine s_alloc cx z33 rfl rfl rfl ?_; intro b12 w cx hb12 hw12
        replace hz := hz.trans (Fz.new (o := .map #[] 0) hb12 hw12)
        refine s_storeAllG cx 0 rfl rfl rfl rfl rfl rfl sz33 rfl rfl ?_; intro w cx hg12
        replace hz := hz.trans (Fz.set (i := 0) (o' := .cells (vrow (zk 7) (.slice none 0 0) (.slice none 0 0) (.slice none 0 0)).toArray 33) rfl hg12)
        replace cx := cx.set0
        refine wpList_nil ?_
        refine wp_seq ?_
        refine wp_seq ?_
        refine wp_region_lit ?_
        refine s_val rfl rfl (v_move rfl rfl) ?_
        refine s_val rfl rfl (v_move rfl rfl) ?_
        refine s_val rfl rfl (v_move rfl rfl) ?_
        have cx67 := cx
        refine s_fn cx (c91 _ (d + 1) m b o t _ _ _ _ F.lt (hz.ptr hb) (hz.ptr ho) (hz.ptr ht) hgb hgo hgt hm) Try.func91 rfl rfl rfl rfl rfl rfl ?_; intro q67 w cx hw67 hp67
        replace hz := hz.trans (Fz.below hw67)
        have hO7 := KR.of (ks := keysO b o t) cx67 hw67.size hp67
        obtain ⟨ka, kc, hka, hkr⟩ := hO7
        rw [← hks] at hka hkr
        subst hka
        refine s_val rfl rfl (v_lenSlice rfl rfl Try.underlying123) ?_
        replace cx := cx.nilRow 77 14
        replace hz := hz.trans (Fz.nilRow 77 14)
        replace hkr := (Fz.nilRow 77 14).kr hkr
        refine s_val rfl rfl (v_move rfl rfl) ?_
        refine wpList_nil ?_
        refine wp_block ?_
        refine w_loop (fun k f w1 => ∃ (j : Nat) (S : Fs × List Cf) (v1 ox : Value) (rs1 ors : List (List Value)), k + j = ks.length ∧ f 0 = ps ∧ f 1 = .pointer a1 ∧ f 2 = .pointer a2 ∧ f 3 = .pointer a3 ∧ f 4 = .pointer (some ⟨fnb, 0, none⟩) ∧ f 5 = .pointer (some ⟨g, 0, none⟩) ∧ f 6 = .pointer (some ⟨tkb, 0, none⟩) ∧ f 12 = .pointer (some ⟨b12, 0, none⟩) ∧ f 67 = .slice ka ks.length kc ∧ f 68 = .int .i64 ks.length ∧ f 69 = .int .i64 (j : Nat) ∧ ((ks.take j).foldl (mgStep (mg E tk d) n p b o t) ([], [])) = S ∧ LpS wb w0 L R i g b12 (.slice va n vc) n cs ka ks S v1 ox rs1 ors w1) (ks.length) ?_ ?_
        · skip
          exact ⟨0, ([], []), .slice va n vc, .slice none 0 0, [], [], by omega, rfl, rfl, rfl, rfl, rfl, rfl, rfl, rfl, rfl, rfl, rfl, rfl, LpS.of (k1 := 0) (k2 := n) (X := []) (Y := cs) rfl rfl rfl (by simp) (by rw [set_same hi]; exact cx) (by rw [set_same hi]; exact hz) (by rw [set_same hi]; exact hkr) trivial trivial⟩
        intro gk8 f w hJ
        obtain ⟨j, S, v1, ox, rs1, ors, hkj, hs0, hs1, hs2, hs3, hs4, hs5, hs6, hs12, hs67, hs68, hs69, hSd, hlp⟩ := hJ
        refine wp_seq ?_
        refine wp_region_lit ?_
        refine s_val rfl rfl (v_cmp rfl hs69 hs68 rfl) ?_
        refine wpList_nil ?_
        refine wp_seq ?_
        refine c_split rfl (fun hc70 => ?_) (fun hc70 => ?_)
        · skip
          try simp only [Bool.and_eq_true, Bool.or_eq_true, Bool.and_eq_false_iff, Bool.or_eq_false_iff, Bool.not_eq_true', Bool.not_eq_false', decide_eq_true_eq, decide_eq_false_iff_not, beq_iff_eq, beq_eq_false_iff_ne, bne_iff_ne, bne_eq_false_iff_eq, ne_eq, Classical.not_not] at hc70
          have hjl : j < ks.length := by omega
          obtain ⟨cx, hz, hkr, hrf, hcf⟩ := hlp
          have hh := hz.self
          have hO8 := id hkr (by omega)
          obtain ⟨gk, rfl, hFk, hrk⟩ := hO8
          have hkm : ks[j] ∈ keysO b o t := by rw [← hks]; exact List.getElem_mem _
          have hcnt := fold_cnt_take (mg E tk d) n p b o t hjl
          simp only [hSd] at hcnt
          have hksl : ks.length ≤ 900000 := by
            rw [hks]
            have h1 := keysO_len b o t
            have h2 := hgb.fsLen
            have h3 := hgo.fsLen
            have h4 := hgt.fsLen
            omega
          have hsl : S.1.length ≤ 900000 := by
            have h1 := fold_len_take (mg E tk d) n p b o t (ks.take j)
            rw [hSd, List.length_take] at h1
            omega
          have hO9 : ∃ r c, mg E tk d (n + S.2.length) (p ++ [keyS ks[j]]) (fieldO ks[j] b) (fieldO ks[j] o) (fieldO ks[j] t) = (r, c) := ⟨_, _, rfl⟩
          obtain ⟨r1, c1, hC1⟩ := hO9
          have hg1 := mg_gd E tk (m := m) (by omega) d (n + S.2.length) (p ++ [keyS ks[j]]) (fieldO ks[j] b) (fieldO ks[j] o) (fieldO ks[j] t) (hgb.field _) (hgo.field _) (hgt.field _)
          rw [hC1] at hg1 hcnt
          have hS2 : (ks.take (j + 1)).foldl (mgStep (mg E tk d) n p b o t) ([], []) = (S.1 ++ (r1.map fun v => (ks[j], v)).toList, S.2 ++ c1) := by
            rw [take_foldO hjl, hSd]; simp only [mgStep, hC1]
          refine wp_skip ?_
          refine wp_seq ?_
          refine wp_block ?_
          refine wp_seq ?_
          refine wp_region_lit ?_
          refine s_val rfl rfl (v_ia Try.underlying123 sz9 rfl hs67 hs69 (by omega) (by omega)) ?_
          refine s_val rfl rfl (v_load1 rfl rfl Try.underlying9 rfl (hrk _ (.string ks[j]) (by rw [Int.toNat_natCast, Nat.mul_one]; simp [hjl]))) ?_
          refine s_val rfl rfl (v_assign rfl rfl) ?_
          refine wpList_nil ?_
          refine wp_seq ?_
          refine w_ordK cx (Ctx.sub0 cx) (hz.trans hh).kp mixed [(0, 73), (1, 74), (2, 75), (6, 79), (7, 80), (9, 82), (10, 83), (12, 85), (13, 86)] #[true, true, true, false, false, false, true, true, false, true, true, false, true, true, false, false, false] (by kernel_rfl) (by kernel_rfl) (by kernel_rfl) (by kernel_rfl) ?_
          refine pu_one rfl (wnt_none rfl) (fun w hS => by obtain ⟨cx, hkS⟩ := hS; exact v_load1 rfl hs4 Try.underlying121 rfl ((hFN.keep (hkS _ hFfn)).cell 0 rfl)) ?_
          refine pu_one rfl (wnt_none rfl) (fun w hS => by obtain ⟨cx, hkS⟩ := hS; exact v_move rfl hs0) ?_
          refine pu_one rfl (wnt_none rfl) (fun w hS => by obtain ⟨cx, hkS⟩ := hS; exact v_move rfl rfl) ?_
          refine pu_one rfl (wnt_none rfl) (fun w hS => by obtain ⟨cx, hkS⟩ := hS; exact v_move rfl hs1) ?_
          refine pu_one rfl (wnt_none rfl) (fun w hS => by obtain ⟨cx, hkS⟩ := hS; exact v_move rfl rfl) ?_
          refine pu_one rfl (wnt_none rfl) (fun w hS => by obtain ⟨cx, hkS⟩ := hS; exact v_move rfl hs2) ?_
          refine pu_one rfl (wnt_none rfl) (fun w hS => by obtain ⟨cx, hkS⟩ := hS; exact v_move rfl rfl) ?_
          refine pu_one rfl (wnt_none rfl) (fun w hS => by obtain ⟨cx, hkS⟩ := hS; exact v_move rfl hs3) ?_
          refine pu_one rfl (wnt_none rfl) (fun w hS => by obtain ⟨cx, hkS⟩ := hS; exact v_move rfl rfl) ?_
          refine pu_nil ?_; intro w cx hwD10 hkS10
          replace hh := hh.trans (Fz.below hwD10)
          refine x_one (i := 3) (by kernel_rfl) rfl ?_
          refine s_fn cx (c82 ks[j] _) Try.func82 rfl rfl rfl rfl rfl rfl ?_; intro q76 w cx hw76 hp76
          subst hp76
          replace hh := hh.trans (Fz.below hw76)
          refine x_next ⟨.inl ⟨Ctx.sub0 cx, (hz.trans hh).kp⟩, ?_⟩
          refine x_one (i := 4) (by kernel_rfl) rfl ?_
          refine s_bsl1 cx Try.underlying24 sz112 z112 rfl rfl rfl rfl rfl rfl rfl rfl ?_; intro b77 w cx hb77 hw77
          replace hh := (hh.trans (Fz.new (o := .cells (srow (keyS ks[j])).toArray 112) hb77 hw77)).trans Fz.tl
          have hF77 := F.own1 cx
          have hr77 : RowAt w b77 0 (srow (keyS ks[j])) := cx.row 0 rfl
          replace cx := cx.tl
          refine x_next ⟨.inl ⟨Ctx.sub0 cx, (hz.trans hh).kp⟩, ?_⟩
          refine x_one (i := 5) (by kernel_rfl) rfl ?_
          have cx78 := cx
          refine s_fn cx (c84 _ p [keyS ks[j]] _ _ _ F.lt ((hz.trans hh).pth hps) (path1 hr77 hF77) (by simp only [List.length_singleton]; omega)) Try.func84 rfl rfl rfl rfl rfl rfl ?_; intro q78 w cx hw78 hp78
          replace hp78 := hp78.fr cx78 hw78.size
          replace hh := hh.trans (Fz.below hw78)
          refine x_next ⟨.inl ⟨Ctx.sub0 cx, (hz.trans hh).kp⟩, ?_⟩
          refine x_one (i := 8) (by kernel_rfl) rfl ?_
          have cx81b := cx
          refine s_fn cx (c61o _ (d + 1) m b _ ks[j] _ F.lt (by omega) ((hz.trans hh).ptr hb) hgb) Try.func61 rfl rfl rfl rfl rfl rfl ?_; intro q81 w cx hw81 hp81
          replace hp81 := hp81.fr cx81b hw81.size
          have hzs := Fz.below (L := ((b12, .cells (vrow (zk 7) (.slice none 0 0) (.slice none 0 0) ox).toArray 33) :: L.set i (g, .cells ([v1] : List Value).toArray 50))) (R := (⟨77, 14, ox, S.1.length, ors.flatten⟩ :: ⟨94, 4, v1, n + S.2.length, cs ++ rs1.flatten⟩ :: R)) hw81
          replace hh := hh.trans hzs
          replace hp78 := hzs.pth hp78
          refine x_next ⟨.inl ⟨Ctx.sub0 cx, (hz.trans hh).kp⟩, ?_⟩
          refine x_one (i := 11) (by kernel_rfl) rfl ?_
          have cx84b := cx
          refine s_fn cx (c61o _ (d + 1) m o _ ks[j] _ F.lt (by omega) ((hz.trans hh).ptr ho) hgo) Try.func61 rfl rfl rfl rfl rfl rfl ?_; intro q84 w cx hw84 hp84
          replace hp84 := hp84.fr cx84b hw84.size
          have hzs := Fz.below (L := ((b12, .cells (vrow (zk 7) (.slice none 0 0) (.slice none 0 0) ox).toArray 33) :: L.set i (g, .cells ([v1] : List Value).toArray 50))) (R := (⟨77, 14, ox, S.1.length, ors.flatten⟩ :: ⟨94, 4, v1, n + S.2.length, cs ++ rs1.flatten⟩ :: R)) hw84
          replace hh := hh.trans hzs
          replace hp78 := hzs.pth hp78
          replace hp81 := hzs.ptr hp81
          refine x_next ⟨.inl ⟨Ctx.sub0 cx, (hz.trans hh).kp⟩, ?_⟩
          refine x_one (i := 14) (by kernel_rfl) rfl ?_
          have cx87b := cx
          refine s_fn cx (c61o _ (d + 1) m t _ ks[j] _ F.lt (by omega) ((hz.trans hh).ptr ht) hgt) Try.func61 rfl rfl rfl rfl rfl rfl ?_; intro q87 w cx hw87 hp87
          replace hp87 := hp87.fr cx87b hw87.size
          have hzs := Fz.below (L := ((b12, .cells (vrow (zk 7) (.slice none 0 0) (.slice none 0 0) ox).toArray 33) :: L.set i (g, .cells ([v1] : List Value).toArray 50))) (R := (⟨77, 14, ox, S.1.length, ors.flatten⟩ :: ⟨94, 4, v1, n + S.2.length, cs ++ rs1.flatten⟩ :: R)) hw87
          replace hh := hh.trans hzs
          replace hp78 := hzs.pth hp78
          replace hp81 := hzs.ptr hp81
          replace hp84 := hzs.ptr hp84
          refine x_next ⟨.inl ⟨Ctx.sub0 cx, (hz.trans hh).kp⟩, ?_⟩
          refine x_one (i := 15) (by kernel_rfl) rfl ?_
          replace cx := cx.swap
          replace hh := hh.trans Fz.swap
          replace hp78 := Fz.swap.pth hp78
          replace hp81 := Fz.swap.ptr hp81
          replace hp84 := Fz.swap.ptr hp84
          replace hp87 := Fz.swap.ptr hp87
          refine s_callR rfl rfl (runs_fnv (cap := [.pointer (some ⟨fnb, 0, none⟩), .pointer (some ⟨g, 0, none⟩), .pointer (some ⟨tkb, 0, none⟩)]) Try.func89 rfl rfl rfl rfl rfl) (ih wb _ _ (i + 1) g v1 (n + S.2.length) _ (p ++ [keyS ks[j]]) _ (fieldO ks[j] b) (fieldO ks[j] o) (fieldO ks[j] t) _ _ _ fnb tkb _ cx (by rw [List.getElem?_cons_succ, List.getElem?_set, if_pos rfl, if_pos hil]) ((hz.trans hh).tkr htkr) hp78 hp81 hp84 hp87 (hgb.field _) (hgo.field _) (hgt.field _) (keysO_some hmo hkm) (by rw [List.length_append, List.length_singleton]; omega) (by omega) (by rw [hC1]; omega)) ?_; intro q88 w hp88
          rw [hC1] at hp88
          obtain ⟨v2, rs2, cx, hz2, hq88, hcf2⟩ := hp88
          simp only [List.set_cons_succ, List.set_set] at cx hz2 hq88 hcf2
          have hh0 := hh
          replace hh := (hh.trans hz2).trans Fz.swap
          replace cx := cx.swap
          replace hq88 := Fz.swap.ptr hq88
          replace hcf2 := Fz.swap.cfsB (cfs_low hcf2 ((hz.trans hh0).sz))
          refine x_next ⟨.inr (by kernel_rfl), ?_⟩
          refine x_one (i := 16) (by kernel_rfl) rfl ?_
          refine s_val rfl rfl (v_assign rfl rfl) ?_
          refine x_next ⟨.inr (by kernel_rfl), ?_⟩
          refine x_done (by kernel_rfl) ?_
          refine wp_seq ?_
          refine wp_region_lit ?_
          have hO10 := hq88.formV
          obtain ⟨a88, b88, sbs, sls, sfs, rfl, ha88, hp88f⟩ := hO10
          refine s_val rfl rfl (v_move rfl rfl) ?_
          refine s_val rfl rfl (v_ptrNe rfl rfl rfl Try.underlying75) ?_
          refine wpList_nil ?_
          refine c_split rfl (fun hc90 => ?_) (fun hc90 => ?_)
          · skip
            skip
            have hO11 := Option.isSome_iff_exists.1 (ha88.symm.trans hc90)
            obtain ⟨u, rfl⟩ := hO11
            have hO12 := hp88f rfl
            obtain ⟨rfl, hF88, hr88, hv88⟩ := hO12
            have hgu : Gd d (3 * m) u := hg1 u rfl
            have hO13 := cx.ownRow
            obtain ⟨oa, oc, rfl, hox⟩ := hO13
            have hx := hh.self
            refine w_ordK cx (cx.pick1 0 rfl) hh.self.kp mixed [(0, 91), (1, 92), (2, 93), (3, 94), (4, 95), (5, 96), (8, 99)] #[true, true, true, true, true, true, false, false, true, false, false, false, false, false, false] (by kernel_rfl) (by kernel_rfl) (by kernel_rfl) (by kernel_rfl) ?_
            refine pu_one rfl (wnt_none rfl) (fun w hS => by obtain ⟨cx, hkS⟩ := hS; exact v_fa fa33_7 rfl hs12) ?_
            refine pu_one rfl (wnt_none rfl) (fun w hS => by obtain ⟨cx, hkS⟩ := hS; exact v_load1 rfl rfl Try.underlying31 rfl (cx.cell 0 rfl rfl)) ?_
            refine pu_one rfl (wnt_none rfl) (fun w hS => by obtain ⟨cx, hkS⟩ := hS; exact v_move rfl rfl) ?_
            refine pu_one rfl (wnt_none rfl) (fun w hS => by obtain ⟨cx, hkS⟩ := hS; exact v_move rfl rfl) ?_
            refine pu_one rfl (wnt_none rfl) (fun w hS => by obtain ⟨cx, hkS⟩ := hS; exact v_nilCk rfl rfl) ?_
            refine pu_one rfl (wnt_none rfl) (fun w hS => by obtain ⟨cx, hkS⟩ := hS; exact v_load rfl rfl Try.underlying33 rfl sz33 (hr88.keep (hkS _ hF88)) rfl) ?_
            refine pu_one rfl (wnt_none rfl) (fun w hS => by obtain ⟨cx, hkS⟩ := hS; exact v_lenSlice rfl rfl Try.underlying31) ?_
            refine pu_nil ?_; intro w cx hwD12 hkS12
            have cx12 := cx
            replace hx := hx.trans (Fz.below hwD12)
            replace hv88 := (Fz.below hwD12).rep hv88
            have hO14 : ∃ y, y = w := ⟨_, rfl⟩
            obtain ⟨w12, hw12e⟩ := hO14
            subst hw12e
            refine x_midK 16 13 [⟨6, 97, fun v w' => ∃ bs ls fs, v = .agg (vrow u.sc bs ls fs).toArray ∧ RepV (Fr w12 w') w' u (vrow u.sc bs ls fs)⟩, ⟨7, 98, fun v w' => ∃ bs ls fs, v = .agg (.string ks[j] :: vrow u.sc bs ls fs).toArray ∧ RepV (Fr w12 w') w' u (vrow u.sc bs ls fs)⟩, ⟨9, 100, fun v w' => ∃ b, v = .slice (some ⟨b, 0, none⟩) 1 1 ∧ RowAt w' b 0 (.string ByteArray.empty :: vrow (zk 0) (.slice none 0 0) (.slice none 0 0) (.slice none 0 0))⟩] [(0, 91), (1, 92), (2, 93), (3, 94), (4, 95), (5, 96), (8, 99)] [(6, 97), (7, 98), (9, 100)] _ #[true, true, true, true, true, true, true, true, true, true, false, false, false, false, false] cx rfl rfl (by kernel_rfl) (by kernel_rfl) (by kernel_rfl) (by kernel_rfl) (Or.inl fun w' hc hb => ⟨hc.pick1 0 rfl, fun b hC => (hb.block b (Nat.lt_of_lt_of_le hC.1 hwD12.size)).trans (hkS12 b hC)⟩) ?_ ?_ ?_
            · skip
              refine List.forall_mem_cons.2 ⟨?_, List.forall_mem_cons.2 ⟨?_, List.forall_mem_cons.2 ⟨?_, fun x hx => absurd hx List.not_mem_nil⟩⟩⟩
              · skip
                rintro v w w' hws hb ⟨bs, ls, fs, e, hv⟩; exact ⟨bs, ls, fs, e, RepV.mono (fun b h => ⟨h.1, Nat.lt_of_lt_of_le h.2 hb.size⟩) (fun b h => hb.block b h.2) _ _ hv⟩
              · skip
                rintro v w w' hws hb ⟨bs, ls, fs, e, hv⟩; exact ⟨bs, ls, fs, e, RepV.mono (fun b h => ⟨h.1, Nat.lt_of_lt_of_le h.2 hb.size⟩) (fun b h => hb.block b h.2) _ _ hv⟩
              · skip
                rintro v w w' hws hb ⟨b, e, hv⟩; exact ⟨b, e, hv.up hb⟩
            · skip
              refine List.forall_mem_cons.2 ⟨?_, List.forall_mem_cons.2 ⟨?_, List.forall_mem_cons.2 ⟨?_, fun x hx => absurd hx List.not_mem_nil⟩⟩⟩
              · skip
                refine ⟨_, rfl, fun f w cx hwM hfx hd => ?_⟩
                refine s_fn cx (c60 48 u _ _ (deep_mono _ _ _ (deep_of_okd _ _ hgu.ok) (by omega)) (by omega) (RepV.mono (fun b hb => Nat.lt_of_lt_of_le hb.1 hwM.size) (fun b hb => hwM.block b hb.1) _ _ hv88) hgu.fine) Try.func60 rfl rfl rfl rfl rfl (cons_eq (hfx 96 rfl) rfl) ?_
                intro q w' cx' hw hp
                have hO15 := hp.rep
                obtain ⟨r, rfl, hr⟩ := hO15
                have hO16 := hr.open
                obtain ⟨bs, ls, fs, rfl, _⟩ := hO16
                exact x_next ⟨_, rfl, hw, bs, ls, fs, rfl, RepV.mono (fun b h => ⟨Nat.le_trans hwM.size h.1, h.2⟩) (fun _ _ => rfl) _ _ hr⟩
              · skip
                refine ⟨_, rfl, fun f w cx hwM hfx hd => ?_⟩
                have hd97 := hd _ (List.mem_cons_self ..) (by kernel_rfl)
                obtain ⟨bs, ls, fs, e97, hv97⟩ := hd97
                have e97' : f 97 = .agg (vrow u.sc bs ls fs).toArray := e97
                refine s_val rfl rfl (v_build (bd77 _ _ _ _ _) rfl (by show [(0, f 93), (1, f 97)] = _; rw [hfx 93 rfl, e97']; rfl)) ?_
                exact x_next ⟨_, rfl, Below.refl _ _, bs, ls, fs, rfl, hv97⟩
              · skip
                refine ⟨_, rfl, fun f w cx hwM hfx hd => ?_⟩
                refine s_bsl1 cx Try.underlying31 sz77 z77 rfl rfl rfl rfl rfl rfl rfl rfl ?_
                intro b w' cx' hb hw
                exact x_next ⟨_, rfl, hw, b, rfl, cx'.row 0 rfl⟩
            intro f w cx hwM hfx hd
            have hd97 := hd _ (List.mem_cons_self ..)
            have hd98 := hd _ (List.mem_cons_of_mem _ (List.mem_cons_self ..))
            have hd100 := hd _ (List.mem_cons_of_mem _ (List.mem_cons_of_mem _ (List.mem_cons_self ..)))
            have hs0 := (hfx 0 rfl).trans hs0
            have hs1 := (hfx 1 rfl).trans hs1
            have hs2 := (hfx 2 rfl).trans hs2
            have hs3 := (hfx 3 rfl).trans hs3
            have hs4 := (hfx 4 rfl).trans hs4
            have hs5 := (hfx 5 rfl).trans hs5
            have hs6 := (hfx 6 rfl).trans hs6
            have hs12 := (hfx 12 rfl).trans hs12
            have hs67 := (hfx 67 rfl).trans hs67
            have hs68 := (hfx 68 rfl).trans hs68
            have hs69 := (hfx 69 rfl).trans hs69
            have hs92 := (hfx 92 rfl).trans rfl
            have hs99 := (hfx 99 rfl).trans rfl
            obtain ⟨nbs, nls, nfs, hs98, hv98⟩ := hd98
            obtain ⟨bz, hs100, hrz⟩ := hd100
            replace hx := hx.trans (Fz.below hwM)
            have hvn := RepV.fr hv98 cx12 hwM.size
            have hy := hx.self
            refine x_one (i := 10) (by kernel_rfl) rfl ?_
            refine s_appendG (m := 1) cx ei77 Try.underlying31 rfl rfl rfl hs92 hs100 hrz rfl rfl (by omega) ?_; intro v101 w cx hgr101 hnw101
            replace hx := hx.trans (Fz.app (r := (⟨77, 14, .slice oa S.1.length oc, S.1.length, ors.flatten⟩ : Row)) (r' := (⟨77, 14, v101, S.1.length + 1, (ors.flatten ++ (.string ByteArray.empty :: vrow (zk 0) (.slice none 0 0) (.slice none 0 0) (.slice none 0 0)))⟩ : Row)) hgr101 hnw101)
            replace hy := hy.trans (Fz.app (r := (⟨77, 14, .slice oa S.1.length oc, S.1.length, ors.flatten⟩ : Row)) (r' := (⟨77, 14, v101, S.1.length + 1, (ors.flatten ++ (.string ByteArray.empty :: vrow (zk 0) (.slice none 0 0) (.slice none 0 0) (.slice none 0 0)))⟩ : Row)) hgr101 hnw101)
            have hO17 := cx.ownRow
            obtain ⟨a101, c101, rfl, h101⟩ := hO17
            have hO18 := h101 (by omega)
            obtain ⟨g101, rfl, _⟩ := hO18
            refine x_next ⟨.inr (by kernel_rfl), ?_⟩
            refine x_two (i := 11) (j := 13) (by kernel_rfl) rfl rfl ?_ ?_
            · skip
              refine s_val rfl rfl (v_ia Try.underlying31 sz77 rfl rfl hs99 (by omega) (by omega)) ?_
              refine x_next ⟨.inr (by kernel_rfl), ?_⟩
              refine x_two (i := 12) (j := 13) (by kernel_rfl) rfl rfl ?_ ?_
              · skip
                refine s_storeRow cx rfl rfl rfl rfl hs98 sz77 (by show 0 + _ * 14 + 14 ≤ _; rw [Int.toNat_natCast]; omega) (rowF_one hvn) ?_; intro w cx hg12 hsz12
                replace hx := hx.trans (Fz.app (r := (⟨77, 14, .slice (some ⟨g101, 0, none⟩) (S.1.length + 1) c101, S.1.length + 1, (ors.flatten ++ (.string ByteArray.empty :: vrow (zk 0) (.slice none 0 0) (.slice none 0 0) (.slice none 0 0)))⟩ : Row)) (r' := (⟨77, 14, .slice (some ⟨g101, 0, none⟩) (S.1.length + 1) c101, S.1.length + 1, ((ors.flatten ++ (.string ByteArray.empty :: vrow (zk 0) (.slice none 0 0) (.slice none 0 0) (.slice none 0 0))).take (0 + ((S.1.length : Nat) : Int).toNat * 14) ++ (.string ks[j] :: vrow u.sc nbs nls nfs) ++ (ors.flatten ++ (.string ByteArray.empty :: vrow (zk 0) (.slice none 0 0) (.slice none 0 0) (.slice none 0 0))).drop (0 + ((S.1.length : Nat) : Int).toNat * 14 + (Value.string ks[j] :: vrow u.sc nbs nls nfs).length))⟩ : Row)) hg12 (fun q hq => .inl hq))
                replace hy := hy.trans (Fz.app (r := (⟨77, 14, .slice (some ⟨g101, 0, none⟩) (S.1.length + 1) c101, S.1.length + 1, (ors.flatten ++ (.string ByteArray.empty :: vrow (zk 0) (.slice none 0 0) (.slice none 0 0) (.slice none 0 0)))⟩ : Row)) (r' := (⟨77, 14, .slice (some ⟨g101, 0, none⟩) (S.1.length + 1) c101, S.1.length + 1, ((ors.flatten ++ (.string ByteArray.empty :: vrow (zk 0) (.slice none 0 0) (.slice none 0 0) (.slice none 0 0))).take (0 + ((S.1.length : Nat) : Int).toNat * 14) ++ (.string ks[j] :: vrow u.sc nbs nls nfs) ++ (ors.flatten ++ (.string ByteArray.empty :: vrow (zk 0) (.slice none 0 0) (.slice none 0 0) (.slice none 0 0))).drop (0 + ((S.1.length : Nat) : Int).toNat * 14 + (Value.string ks[j] :: vrow u.sc nbs nls nfs).length))⟩ : Row)) hg12 (fun q hq => .inl hq))
                refine x_next ⟨.inr (by kernel_rfl), ?_⟩
                refine x_one (i := 13) (by kernel_rfl) rfl ?_
                refine s_val rfl rfl (v_fa fa33_7 rfl hs12) ?_
                refine x_next ⟨.inr (by kernel_rfl), ?_⟩
                refine x_one (i := 14) (by kernel_rfl) rfl ?_
                refine s_store1G cx 0 rfl rfl rfl rfl rfl rfl rfl rfl rfl ?_; intro w cx hg14
                replace hx := hx.trans (Fz.set (i := 0) (o' := .cells (vrow (zk 7) (.slice none 0 0) (.slice none 0 0) (.slice (some ⟨g101, 0, none⟩) (S.1.length + 1) c101)).toArray 33) rfl hg14)
                replace hy := hy.trans (Fz.set (i := 0) (o' := .cells (vrow (zk 7) (.slice none 0 0) (.slice none 0 0) (.slice (some ⟨g101, 0, none⟩) (S.1.length + 1) c101)).toArray 33) rfl hg14)
                replace cx := cx.set0
                refine x_next ⟨.inr (by kernel_rfl), ?_⟩
                refine x_done (by kernel_rfl) ?_
                refine wp_region_lit ?_
                refine s_val rfl rfl (v_add rfl hs69 rfl (by omega) (by omega)) ?_
                refine s_val rfl rfl (v_move rfl rfl) ?_
                refine wpList_nil ?_
                have hrl := RowsF.length S.1 ors hrf
                refine ⟨gk8 - 1, _, by omega, rfl, j + 1, _, v2, .slice (some ⟨g101, 0, none⟩) (S.1.length + 1) c101, rs1 ++ rs2, ors ++ [.string ks[j] :: vrow u.sc nbs nls nfs], by omega, hs0, hs1, hs2, hs3, hs4, hs5, hs6, hs12, hs67, hs68, rfl, hS2, LpS.of ?_ ?_ ?_ ?_ cx (hz.trans (hh.trans hx)) ((hh.trans hx).kr hkr) (RowsF.snoc _ _ ((hh.trans hx).rowsF hrf) (hy.rep hvn)) (Rws.append ((hh.trans hx).cfsB hcf) (hx.cfsB hcf2))⟩
                · simp
                · exact flat_snoc hrl.1 rfl (by rw [Int.toNat_natCast]; omega)
                · simp [Nat.add_assoc]
                · simp
              · skip
                refine s_val rfl rfl (v_fa fa33_7 rfl hs12) ?_
                refine x_next ⟨.inr (by kernel_rfl), ?_⟩
                refine x_two (i := 12) (j := 14) (by kernel_rfl) rfl rfl ?_ ?_
                · skip
                  refine s_storeRow cx rfl rfl rfl rfl hs98 sz77 (by show 0 + _ * 14 + 14 ≤ _; rw [Int.toNat_natCast]; omega) (rowF_one hvn) ?_; intro w cx hg12 hsz12
                  replace hx := hx.trans (Fz.app (r := (⟨77, 14, .slice (some ⟨g101, 0, none⟩) (S.1.length + 1) c101, S.1.length + 1, (ors.flatten ++ (.string ByteArray.empty :: vrow (zk 0) (.slice none 0 0) (.slice none 0 0) (.slice none 0 0)))⟩ : Row)) (r' := (⟨77, 14, .slice (some ⟨g101, 0, none⟩) (S.1.length + 1) c101, S.1.length + 1, ((ors.flatten ++ (.string ByteArray.empty :: vrow (zk 0) (.slice none 0 0) (.slice none 0 0) (.slice none 0 0))).take (0 + ((S.1.length : Nat) : Int).toNat * 14) ++ (.string ks[j] :: vrow u.sc nbs nls nfs) ++ (ors.flatten ++ (.string ByteArray.empty :: vrow (zk 0) (.slice none 0 0) (.slice none 0 0) (.slice none 0 0))).drop (0 + ((S.1.length : Nat) : Int).toNat * 14 + (Value.string ks[j] :: vrow u.sc nbs nls nfs).length))⟩ : Row)) hg12 (fun q hq => .inl hq))
                  replace hy := hy.trans (Fz.app (r := (⟨77, 14, .slice (some ⟨g101, 0, none⟩) (S.1.length + 1) c101, S.1.length + 1, (ors.flatten ++ (.string ByteArray.empty :: vrow (zk 0) (.slice none 0 0) (.slice none 0 0) (.slice none 0 0)))⟩ : Row)) (r' := (⟨77, 14, .slice (some ⟨g101, 0, none⟩) (S.1.length + 1) c101, S.1.length + 1, ((ors.flatten ++ (.string ByteArray.empty :: vrow (zk 0) (.slice none 0 0) (.slice none 0 0) (.slice none 0 0))).take (0 + ((S.1.length : Nat) : Int).toNat * 14) ++ (.string ks[j] :: vrow u.sc nbs nls nfs) ++ (ors.flatten ++ (.string ByteArray.empty :: vrow (zk 0) (.slice none 0 0) (.slice none 0 0) (.slice none 0 0))).drop (0 + ((S.1.length : Nat) : Int).toNat * 14 + (Value.string ks[j] :: vrow u.sc nbs nls nfs).length))⟩ : Row)) hg12 (fun q hq => .inl hq))
                  refine x_next ⟨.inr (by kernel_rfl), ?_⟩
                  refine x_one (i := 14) (by kernel_rfl) rfl ?_
                  refine s_store1G cx 0 rfl rfl rfl rfl rfl rfl rfl rfl rfl ?_; intro w cx hg14
                  replace hx := hx.trans (Fz.set (i := 0) (o' := .cells (vrow (zk 7) (.slice none 0 0) (.slice none 0 0) (.slice (some ⟨g101, 0, none⟩) (S.1.length + 1) c101)).toArray 33) rfl hg14)
                  replace hy := hy.trans (Fz.set (i := 0) (o' := .cells (vrow (zk 7) (.slice none 0 0) (.slice none 0 0) (.slice (some ⟨g101, 0, none⟩) (S.1.length + 1) c101)).toArray 33) rfl hg14)
                  replace cx := cx.set0
                  refine x_next ⟨.inr (by kernel_rfl), ?_⟩
                  refine x_done (by kernel_rfl) ?_
                  refine wp_region_lit ?_
                  refine s_val rfl rfl (v_add rfl hs69 rfl (by omega) (by omega)) ?_
                  refine s_val rfl rfl (v_move rfl rfl) ?_
                  refine wpList_nil ?_
                  have hrl := RowsF.length S.1 ors hrf
                  refine ⟨gk8 - 1, _, by omega, rfl, j + 1, _, v2, .slice (some ⟨g101, 0, none⟩) (S.1.length + 1) c101, rs1 ++ rs2, ors ++ [.string ks[j] :: vrow u.sc nbs nls nfs], by omega, hs0, hs1, hs2, hs3, hs4, hs5, hs6, hs12, hs67, hs68, rfl, hS2, LpS.of ?_ ?_ ?_ ?_ cx (hz.trans (hh.trans hx)) ((hh.trans hx).kr hkr) (RowsF.snoc _ _ ((hh.trans hx).rowsF hrf) (hy.rep hvn)) (Rws.append ((hh.trans hx).cfsB hcf) (hx.cfsB hcf2))⟩
                  · simp
                  · exact flat_snoc hrl.1 rfl (by rw [Int.toNat_natCast]; omega)
                  · simp [Nat.add_assoc]
                  · simp
                · skip
                  refine s_store1G cx 0 rfl rfl rfl rfl rfl rfl rfl rfl rfl ?_; intro w cx hg14
                  replace hx := hx.trans (Fz.set (i := 0) (o' := .cells (vrow (zk 7) (.slice none 0 0) (.slice none 0 0) (.slice (some ⟨g101, 0, none⟩) (S.1.length + 1) c101)).toArray 33) rfl hg14)
                  replace hy := hy.trans (Fz.set (i := 0) (o' := .cells (vrow (zk 7) (.slice none 0 0) (.slice none 0 0) (.slice (some ⟨g101, 0, none⟩) (S.1.length + 1) c101)).toArray 33) rfl hg14)
                  replace cx := cx.set0
                  refine x_next ⟨.inr (by kernel_rfl), ?_⟩
                  refine x_one (i := 12) (by kernel_rfl) rfl ?_
                  refine s_storeRow cx rfl rfl rfl rfl hs98 sz77 (by show 0 + _ * 14 + 14 ≤ _; rw [Int.toNat_natCast]; omega) (rowF_one hvn) ?_; intro w cx hg12 hsz12
                  replace hx := hx.trans (Fz.app (r := (⟨77, 14, .slice (some ⟨g101, 0, none⟩) (S.1.length + 1) c101, S.1.length + 1, (ors.flatten ++ (.string ByteArray.empty :: vrow (zk 0) (.slice none 0 0) (.slice none 0 0) (.slice none 0 0)))⟩ : Row)) (r' := (⟨77, 14, .slice (some ⟨g101, 0, none⟩) (S.1.length + 1) c101, S.1.length + 1, ((ors.flatten ++ (.string ByteArray.empty :: vrow (zk 0) (.slice none 0 0) (.slice none 0 0) (.slice none 0 0))).take (0 + ((S.1.length : Nat) : Int).toNat * 14) ++ (.string ks[j] :: vrow u.sc nbs nls nfs) ++ (ors.flatten ++ (.string ByteArray.empty :: vrow (zk 0) (.slice none 0 0) (.slice none 0 0) (.slice none 0 0))).drop (0 + ((S.1.length : Nat) : Int).toNat * 14 + (Value.string ks[j] :: vrow u.sc nbs nls nfs).length))⟩ : Row)) hg12 (fun q hq => .inl hq))
                  replace hy := hy.trans (Fz.app (r := (⟨77, 14, .slice (some ⟨g101, 0, none⟩) (S.1.length + 1) c101, S.1.length + 1, (ors.flatten ++ (.string ByteArray.empty :: vrow (zk 0) (.slice none 0 0) (.slice none 0 0) (.slice none 0 0)))⟩ : Row)) (r' := (⟨77, 14, .slice (some ⟨g101, 0, none⟩) (S.1.length + 1) c101, S.1.length + 1, ((ors.flatten ++ (.string ByteArray.empty :: vrow (zk 0) (.slice none 0 0) (.slice none 0 0) (.slice none 0 0))).take (0 + ((S.1.length : Nat) : Int).toNat * 14) ++ (.string ks[j] :: vrow u.sc nbs nls nfs) ++ (ors.flatten ++ (.string ByteArray.empty :: vrow (zk 0) (.slice none 0 0) (.slice none 0 0) (.slice none 0 0))).drop (0 + ((S.1.length : Nat) : Int).toNat * 14 + (Value.string ks[j] :: vrow u.sc nbs nls nfs).length))⟩ : Row)) hg12 (fun q hq => .inl hq))
                  refine x_next ⟨.inr (by kernel_rfl), ?_⟩
                  refine x_done (by kernel_rfl) ?_
                  refine wp_region_lit ?_
                  refine s_val rfl rfl (v_add rfl hs69 rfl (by omega) (by omega)) ?_
                  refine s_val rfl rfl (v_move rfl rfl) ?_
                  refine wpList_nil ?_
                  have hrl := RowsF.length S.1 ors hrf
                  refine ⟨gk8 - 1, _, by omega, rfl, j + 1, _, v2, .slice (some ⟨g101, 0, none⟩) (S.1.length + 1) c101, rs1 ++ rs2, ors ++ [.string ks[j] :: vrow u.sc nbs nls nfs], by omega, hs0, hs1, hs2, hs3, hs4, hs5, hs6, hs12, hs67, hs68, rfl, hS2, LpS.of ?_ ?_ ?_ ?_ cx (hz.trans (hh.trans hx)) ((hh.trans hx).kr hkr) (RowsF.snoc _ _ ((hh.trans hx).rowsF hrf) (hy.rep hvn)) (Rws.append ((hh.trans hx).cfsB hcf) (hx.cfsB hcf2))⟩
                  · simp
                  · exact flat_snoc hrl.1 rfl (by rw [Int.toNat_natCast]; omega)
                  · simp [Nat.add_assoc]
                  · simp
            · skip
              refine s_val rfl rfl (v_fa fa33_7 rfl hs12) ?_
              refine x_next ⟨.inr (by kernel_rfl), ?_⟩
              refine x_two (i := 11) (j := 14) (by kernel_rfl) rfl rfl ?_ ?_
              · skip
                refine s_val rfl rfl (v_ia Try.underlying31 sz77 rfl rfl hs99 (by omega) (by omega)) ?_
                refine x_next ⟨.inr (by kernel_rfl), ?_⟩
                refine x_two (i := 12) (j := 14) (by kernel_rfl) rfl rfl ?_ ?_
                · skip
                  refine s_storeRow cx rfl rfl rfl rfl hs98 sz77 (by show 0 + _ * 14 + 14 ≤ _; rw [Int.toNat_natCast]; omega) (rowF_one hvn) ?_; intro w cx hg12 hsz12
                  replace hx := hx.trans (Fz.app (r := (⟨77, 14, .slice (some ⟨g101, 0, none⟩) (S.1.length + 1) c101, S.1.length + 1, (ors.flatten ++ (.string ByteArray.empty :: vrow (zk 0) (.slice none 0 0) (.slice none 0 0) (.slice none 0 0)))⟩ : Row)) (r' := (⟨77, 14, .slice (some ⟨g101, 0, none⟩) (S.1.length + 1) c101, S.1.length + 1, ((ors.flatten ++ (.string ByteArray.empty :: vrow (zk 0) (.slice none 0 0) (.slice none 0 0) (.slice none 0 0))).take (0 + ((S.1.length : Nat) : Int).toNat * 14) ++ (.string ks[j] :: vrow u.sc nbs nls nfs) ++ (ors.flatten ++ (.string ByteArray.empty :: vrow (zk 0) (.slice none 0 0) (.slice none 0 0) (.slice none 0 0))).drop (0 + ((S.1.length : Nat) : Int).toNat * 14 + (Value.string ks[j] :: vrow u.sc nbs nls nfs).length))⟩ : Row)) hg12 (fun q hq => .inl hq))
                  replace hy := hy.trans (Fz.app (r := (⟨77, 14, .slice (some ⟨g101, 0, none⟩) (S.1.length + 1) c101, S.1.length + 1, (ors.flatten ++ (.string ByteArray.empty :: vrow (zk 0) (.slice none 0 0) (.slice none 0 0) (.slice none 0 0)))⟩ : Row)) (r' := (⟨77, 14, .slice (some ⟨g101, 0, none⟩) (S.1.length + 1) c101, S.1.length + 1, ((ors.flatten ++ (.string ByteArray.empty :: vrow (zk 0) (.slice none 0 0) (.slice none 0 0) (.slice none 0 0))).take (0 + ((S.1.length : Nat) : Int).toNat * 14) ++ (.string ks[j] :: vrow u.sc nbs nls nfs) ++ (ors.flatten ++ (.string ByteArray.empty :: vrow (zk 0) (.slice none 0 0) (.slice none 0 0) (.slice none 0 0))).drop (0 + ((S.1.length : Nat) : Int).toNat * 14 + (Value.string ks[j] :: vrow u.sc nbs nls nfs).length))⟩ : Row)) hg12 (fun q hq => .inl hq))
                  refine x_next ⟨.inr (by kernel_rfl), ?_⟩
                  refine x_one (i := 14) (by kernel_rfl) rfl ?_
                  refine s_store1G cx 0 rfl rfl rfl rfl rfl rfl rfl rfl rfl ?_; intro w cx hg14
                  replace hx := hx.trans (Fz.set (i := 0) (o' := .cells (vrow (zk 7) (.slice none 0 0) (.slice none 0 0) (.slice (some ⟨g101, 0, none⟩) (S.1.length + 1) c101)).toArray 33) rfl hg14)
                  replace hy := hy.trans (Fz.set (i := 0) (o' := .cells (vrow (zk 7) (.slice none 0 0) (.slice none 0 0) (.slice (some ⟨g101, 0, none⟩) (S.1.length + 1) c101)).toArray 33) rfl hg14)
                  replace cx := cx.set0
                  refine x_next ⟨.inr (by kernel_rfl), ?_⟩
                  refine x_done (by kernel_rfl) ?_
                  refine wp_region_lit ?_
                  refine s_val rfl rfl (v_add rfl hs69 rfl (by omega) (by omega)) ?_
                  refine s_val rfl rfl (v_move rfl rfl) ?_
                  refine wpList_nil ?_
                  have hrl := RowsF.length S.1 ors hrf
                  refine ⟨gk8 - 1, _, by omega, rfl, j + 1, _, v2, .slice (some ⟨g101, 0, none⟩) (S.1.length + 1) c101, rs1 ++ rs2, ors ++ [.string ks[j] :: vrow u.sc nbs nls nfs], by omega, hs0, hs1, hs2, hs3, hs4, hs5, hs6, hs12, hs67, hs68, rfl, hS2, LpS.of ?_ ?_ ?_ ?_ cx (hz.trans (hh.trans hx)) ((hh.trans hx).kr hkr) (RowsF.snoc _ _ ((hh.trans hx).rowsF hrf) (hy.rep hvn)) (Rws.append ((hh.trans hx).cfsB hcf) (hx.cfsB hcf2))⟩
                  · simp
                  · exact flat_snoc hrl.1 rfl (by rw [Int.toNat_natCast]; omega)
                  · simp [Nat.add_assoc]
                  · simp
                · skip
                  refine s_store1G cx 0 rfl rfl rfl rfl rfl rfl rfl rfl rfl ?_; intro w cx hg14
                  replace hx := hx.trans (Fz.set (i := 0) (o' := .cells (vrow (zk 7) (.slice none 0 0) (.slice none 0 0) (.slice (some ⟨g101, 0, none⟩) (S.1.length + 1) c101)).toArray 33) rfl hg14)
                  replace hy := hy.trans (Fz.set (i := 0) (o' := .cells (vrow (zk 7) (.slice none 0 0) (.slice none 0 0) (.slice (some ⟨g101, 0, none⟩) (S.1.length + 1) c101)).toArray 33) rfl hg14)
                  replace cx := cx.set0
                  refine x_next ⟨.inr (by kernel_rfl), ?_⟩
                  refine x_one (i := 12) (by kernel_rfl) rfl ?_
                  refine s_storeRow cx rfl rfl rfl rfl hs98 sz77 (by show 0 + _ * 14 + 14 ≤ _; rw [Int.toNat_natCast]; omega) (rowF_one hvn) ?_; intro w cx hg12 hsz12
                  replace hx := hx.trans (Fz.app (r := (⟨77, 14, .slice (some ⟨g101, 0, none⟩) (S.1.length + 1) c101, S.1.length + 1, (ors.flatten ++ (.string ByteArray.empty :: vrow (zk 0) (.slice none 0 0) (.slice none 0 0) (.slice none 0 0)))⟩ : Row)) (r' := (⟨77, 14, .slice (some ⟨g101, 0, none⟩) (S.1.length + 1) c101, S.1.length + 1, ((ors.flatten ++ (.string ByteArray.empty :: vrow (zk 0) (.slice none 0 0) (.slice none 0 0) (.slice none 0 0))).take (0 + ((S.1.length : Nat) : Int).toNat * 14) ++ (.string ks[j] :: vrow u.sc nbs nls nfs) ++ (ors.flatten ++ (.string ByteArray.empty :: vrow (zk 0) (.slice none 0 0) (.slice none 0 0) (.slice none 0 0))).drop (0 + ((S.1.length : Nat) : Int).toNat * 14 + (Value.string ks[j] :: vrow u.sc nbs nls nfs).length))⟩ : Row)) hg12 (fun q hq => .inl hq))
                  replace hy := hy.trans (Fz.app (r := (⟨77, 14, .slice (some ⟨g101, 0, none⟩) (S.1.length + 1) c101, S.1.length + 1, (ors.flatten ++ (.string ByteArray.empty :: vrow (zk 0) (.slice none 0 0) (.slice none 0 0) (.slice none 0 0)))⟩ : Row)) (r' := (⟨77, 14, .slice (some ⟨g101, 0, none⟩) (S.1.length + 1) c101, S.1.length + 1, ((ors.flatten ++ (.string ByteArray.empty :: vrow (zk 0) (.slice none 0 0) (.slice none 0 0) (.slice none 0 0))).take (0 + ((S.1.length : Nat) : Int).toNat * 14) ++ (.string ks[j] :: vrow u.sc nbs nls nfs) ++ (ors.flatten ++ (.string ByteArray.empty :: vrow (zk 0) (.slice none 0 0) (.slice none 0 0) (.slice none 0 0))).drop (0 + ((S.1.length : Nat) : Int).toNat * 14 + (Value.string ks[j] :: vrow u.sc nbs nls nfs).length))⟩ : Row)) hg12 (fun q hq => .inl hq))
                  refine x_next ⟨.inr (by kernel_rfl), ?_⟩
                  refine x_done (by kernel_rfl) ?_
                  refine wp_region_lit ?_
                  refine s_val rfl rfl (v_add rfl hs69 rfl (by omega) (by omega)) ?_
                  refine s_val rfl rfl (v_move rfl rfl) ?_
                  refine wpList_nil ?_
                  have hrl := RowsF.length S.1 ors hrf
                  refine ⟨gk8 - 1, _, by omega, rfl, j + 1, _, v2, .slice (some ⟨g101, 0, none⟩) (S.1.length + 1) c101, rs1 ++ rs2, ors ++ [.string ks[j] :: vrow u.sc nbs nls nfs], by omega, hs0, hs1, hs2, hs3, hs4, hs5, hs6, hs12, hs67, hs68, rfl, hS2, LpS.of ?_ ?_ ?_ ?_ cx (hz.trans (hh.trans hx)) ((hh.trans hx).kr hkr) (RowsF.snoc _ _ ((hh.trans hx).rowsF hrf) (hy.rep hvn)) (Rws.append ((hh.trans hx).cfsB hcf) (hx.cfsB hcf2))⟩
                  · simp
                  · exact flat_snoc hrl.1 rfl (by rw [Int.toNat_natCast]; omega)
                  · simp [Nat.add_assoc]
                  · simp
              · skip
                refine s_store1G cx 0 rfl rfl rfl rfl rfl rfl rfl rfl rfl ?_; intro w cx hg14
                replace hx := hx.trans (Fz.set (i := 0) (o' := .cells (vrow (zk 7) (.slice none 0 0) (.slice none 0 0) (.slice (some ⟨g101, 0, none⟩) (S.1.length + 1) c101)).toArray 33) rfl hg14)
                replace hy := hy.trans (Fz.set (i := 0) (o' := .cells (vrow (zk 7) (.slice none 0 0) (.slice none 0 0) (.slice (some ⟨g101, 0, none⟩) (S.1.length + 1) c101)).toArray 33) rfl hg14)
                replace cx := cx.set0
                refine x_next ⟨.inr (by kernel_rfl), ?_⟩
                refine x_one (i := 11) (by kernel_rfl) rfl ?_
                refine s_val rfl rfl (v_ia Try.underlying31 sz77 rfl rfl hs99 (by omega) (by omega)) ?_
                refine x_next ⟨.inr (by kernel_rfl), ?_⟩
                refine x_one (i := 12) (by kernel_rfl) rfl ?_
                refine s_storeRow cx rfl rfl rfl rfl hs98 sz77 (by show 0 + _ * 14 + 14 ≤ _; rw [Int.toNat_natCast]; omega) (rowF_one hvn) ?_; intro w cx hg12 hsz12
                replace hx := hx.trans (Fz.app (r := (⟨77, 14, .slice (some ⟨g101, 0, none⟩) (S.1.length + 1) c101, S.1.length + 1, (ors.flatten ++ (.string ByteArray.empty :: vrow (zk 0) (.slice none 0 0) (.slice none 0 0) (.slice none 0 0)))⟩ : Row)) (r' := (⟨77, 14, .slice (some ⟨g101, 0, none⟩) (S.1.length + 1) c101, S.1.length + 1, ((ors.flatten ++ (.string ByteArray.empty :: vrow (zk 0) (.slice none 0 0) (.slice none 0 0) (.slice none 0 0))).take (0 + ((S.1.length : Nat) : Int).toNat * 14) ++ (.string ks[j] :: vrow u.sc nbs nls nfs) ++ (ors.flatten ++ (.string ByteArray.empty :: vrow (zk 0) (.slice none 0 0) (.slice none 0 0) (.slice none 0 0))).drop (0 + ((S.1.length : Nat) : Int).toNat * 14 + (Value.string ks[j] :: vrow u.sc nbs nls nfs).length))⟩ : Row)) hg12 (fun q hq => .inl hq))
                replace hy := hy.trans (Fz.app (r := (⟨77, 14, .slice (some ⟨g101, 0, none⟩) (S.1.length + 1) c101, S.1.length + 1, (ors.flatten ++ (.string ByteArray.empty :: vrow (zk 0) (.slice none 0 0) (.slice none 0 0) (.slice none 0 0)))⟩ : Row)) (r' := (⟨77, 14, .slice (some ⟨g101, 0, none⟩) (S.1.length + 1) c101, S.1.length + 1, ((ors.flatten ++ (.string ByteArray.empty :: vrow (zk 0) (.slice none 0 0) (.slice none 0 0) (.slice none 0 0))).take (0 + ((S.1.length : Nat) : Int).toNat * 14) ++ (.string ks[j] :: vrow u.sc nbs nls nfs) ++ (ors.flatten ++ (.string ByteArray.empty :: vrow (zk 0) (.slice none 0 0) (.slice none 0 0) (.slice none 0 0))).drop (0 + ((S.1.length : Nat) : Int).toNat * 14 + (Value.string ks[j] :: vrow u.sc nbs nls nfs).length))⟩ : Row)) hg12 (fun q hq => .inl hq))
                refine x_next ⟨.inr (by kernel_rfl), ?_⟩
                refine x_done (by kernel_rfl) ?_
                refine wp_region_lit ?_
                refine s_val rfl rfl (v_add rfl hs69 rfl (by omega) (by omega)) ?_
                refine s_val rfl rfl (v_move rfl rfl) ?_
                refine wpList_nil ?_
                have hrl := RowsF.length S.1 ors hrf
                refine ⟨gk8 - 1, _, by omega, rfl, j + 1, _, v2, .slice (some ⟨g101, 0, none⟩) (S.1.length + 1) c101, rs1 ++ rs2, ors ++ [.string ks[j] :: vrow u.sc nbs nls nfs], by omega, hs0, hs1, hs2, hs3, hs4, hs5, hs6, hs12, hs67, hs68, rfl, hS2, LpS.of ?_ ?_ ?_ ?_ cx (hz.trans (hh.trans hx)) ((hh.trans hx).kr hkr) (RowsF.snoc _ _ ((hh.trans hx).rowsF hrf) (hy.rep hvn)) (Rws.append ((hh.trans hx).cfsB hcf) (hx.cfsB hcf2))⟩
                · simp
                · exact flat_snoc hrl.1 rfl (by rw [Int.toNat_natCast]; omega)
                · simp [Nat.add_assoc]
                · simp
          · skip
            skip
            obtain rfl : r1 = none := by cases r1 with
              | none => rfl
              | some u => rw [ha88] at hc90; cases hc90
            refine wp_skip ?_
            refine wp_region_lit ?_
            refine s_val rfl rfl (v_add rfl hs69 rfl (by omega) (by omega)) ?_
            refine s_val rfl rfl (v_move rfl rfl) ?_
            refine wpList_nil ?_
            refine ⟨gk8 - 1, _, by omega, rfl, j + 1, _, v2, ox, rs1 ++ rs2, ors, by omega, hs0, hs1, hs2, hs3, hs4, hs5, hs6, hs12, hs67, hs68, rfl, hS2, LpS.of ?_ ?_ ?_ ?_ cx (hz.trans hh) (hh.kr hkr) ?_ (Rws.append (hh.cfsB hcf) hcf2)⟩
            · simp
            · rfl
            · simp [Nat.add_assoc]
            · simp
            · simpa using hh.rowsF hrf
        · skip
          try simp only [Bool.and_eq_true, Bool.or_eq_true, Bool.and_eq_false_iff, Bool.or_eq_false_iff, Bool.not_eq_true', Bool.not_eq_false', decide_eq_true_eq, decide_eq_false_iff_not, beq_iff_eq, beq_eq_false_iff_ne, bne_iff_ne, bne_eq_false_iff_eq, ne_eq, Classical.not_not] at hc70
          refine wp_exit ?_
          refine wp_seq ?_
          refine wp_region_lit ?_
          refine s_val rfl rfl (v_assign rfl hs12) ?_
          refine wpList_nil ?_
          refine wp_ret ?_
          refine ret_tmp Try.results89 rfl ?_
          have hjl : j = ks.length := by omega
          rw [hjl, List.take_of_length_le (Nat.le_refl _)] at hSd
          obtain ⟨cx, hz, hkr, hrf, hcf⟩ := hlp
          have hmg : mg E tk (d + 1) n p b o t = (some (mapV S.1), S.2) := by rw [mg_3 hn1 hn2 hmo, ← hks, hSd]
          refine MgP.cast hmg ?_
          refine ⟨v1, rs1, (cx.drop 1).dropR 1, (hz.trans (Fz.dropL 1)).trans (Fz.dropR 1), ⟨b12, _, rfl, ?_, cx.row 0 rfl, ?_⟩, (Fz.dropR 1).cfsB ((Fz.dropL 1).cfsB hcf)⟩
          · exact (Fz.dropR 1).up _ (F.own1 cx)
          · refine RepV.mk (v := mapV S.1) repB_nil repL_nil (RepF.mono ?_ (fun _ _ => rfl) (fld_of_row cx.head rfl hrf (fun _ _ => rfl)))
            rintro b (hb | hb)
            · exact (Fz.dropR 1).up _ ((Fz.dropL 1).up _ hb)
            · exact (Fz.dropL 1).up _ (F.row1 cx b hb)
      · skip
        skip
        have hmo : mapsO b o t = false := (maps_b ha1 ha2 ha3).symm.trans hc62
        refine wp_skip ?_
        refine wp_seq ?_
        refine wp_region_lit ?_
        refine s_val rfl rfl (v_load1 rfl rfl Try.underlying50 rfl (cx.cell i hi rfl)) ?_
        refine s_val rfl rfl (v_lenSlice rfl rfl Try.underlying50) ?_
        refine s_val rfl rfl (v_assign rfl rfl) ?_
        refine wpList_nil ?_
        refine wp_seq ?_
        refine w_ord cx (cx.pick1 i hi) mixed [(0, 107), (1, 108), (3, 110), (5, 112), (7, 114)] #[true, true, false, true, false, true, false, true, false, false, false, false, false] (by kernel_rfl) (by kernel_rfl) (by kernel_rfl) (by kernel_rfl) ?_
        refine pu_one rfl (wnt_none rfl) (fun w cx => v_load1 rfl rfl Try.underlying50 rfl (cx.cell 0 rfl rfl)) ?_
        refine pu_one rfl (wnt_none rfl) (fun w cx => v_move rfl rfl) ?_
        refine pu_one rfl (wnt_none rfl) (fun w cx => v_move rfl rfl) ?_
        refine pu_one rfl (wnt_none rfl) (fun w cx => v_move rfl rfl) ?_
        refine pu_one rfl (wnt_none rfl) (fun w cx => v_move rfl rfl) ?_
        refine pu_nil ?_; intro w cx hwD16
        replace hz := hz.trans (Fz.below hwD16)
        refine x_one (i := 2) (by kernel_rfl) rfl ?_
        have cx109 := cx
        refine s_fn cx (c84 _ p [] _ _ _ F.lt (hz.pth hps) PthA.nil (by simp only [List.length_nil]; omega)) Try.func84 rfl rfl rfl rfl rfl rfl ?_; intro q109 w cx hw109 hp109
        replace hp109 := hp109.frB cx109 hw109.size hz.sz
        rw [List.append_nil] at hp109
        replace hz := hz.trans (Fz.below hw109)
        refine x_next ⟨.inl (cx.pick1 i hi), ?_⟩
        refine x_one (i := 4) (by kernel_rfl) rfl ?_
        have cx111b := cx
        refine s_fn cx (c92 _ (d + 1) m b _ _ F.lt (by omega) (hz.ptr hb) hgb) Try.func92 rfl rfl rfl rfl rfl rfl ?_; intro q111 w cx hw111 hp111
        replace hp111 := hp111.frB cx111b hw111.size hz.sz
        have hzs := Fz.below (L := L) (R := (⟨94, 4, .slice va n vc, n, cs⟩ :: R)) hw111
        replace hz := hz.trans hzs
        replace hp109 := hzs.pthB hp109
        refine x_next ⟨.inl (cx.pick1 i hi), ?_⟩
        refine x_one (i := 6) (by kernel_rfl) rfl ?_
        have cx113b := cx
        refine s_fn cx (c92 _ (d + 1) m o _ _ F.lt (by omega) (hz.ptr ho) hgo) Try.func92 rfl rfl rfl rfl rfl rfl ?_; intro q113 w cx hw113 hp113
        replace hp113 := hp113.frB cx113b hw113.size hz.sz
        have hzs := Fz.below (L := L) (R := (⟨94, 4, .slice va n vc, n, cs⟩ :: R)) hw113
        replace hz := hz.trans hzs
        replace hp109 := hzs.pthB hp109
        replace hp111 := hzs.repLB hp111
        refine x_next ⟨.inl (cx.pick1 i hi), ?_⟩
        refine x_one (i := 8) (by kernel_rfl) rfl ?_
        have cx115b := cx
        refine s_fn cx (c92 _ (d + 1) m t _ _ F.lt (by omega) (hz.ptr ht) hgt) Try.func92 rfl rfl rfl rfl rfl rfl ?_; intro q115 w cx hw115 hp115
        replace hp115 := hp115.frB cx115b hw115.size hz.sz
        have hzs := Fz.below (L := L) (R := (⟨94, 4, .slice va n vc, n, cs⟩ :: R)) hw115
        replace hz := hz.trans hzs
        replace hp109 := hzs.pthB hp109
        replace hp111 := hzs.repLB hp111
        replace hp113 := hzs.repLB hp113
        refine x_next ⟨.inl (cx.pick1 i hi), ?_⟩
        refine x_one (i := 9) (by kernel_rfl) rfl ?_
        have hO19 := hp109.sl
        obtain ⟨pa, pc, rfl⟩ := hO19
        have hO20 := hp111.sl
        obtain ⟨qa, qc, rfl⟩ := hO20
        have hO21 := hp113.sl
        obtain ⟨ra, rc, rfl⟩ := hO21
        have hO22 := hp115.sl
        obtain ⟨sa, sc, rfl⟩ := hO22
        refine s_val rfl rfl (v_build (bd94 _ _ _ _ _ _ _ _ _ _ _ _) rfl rfl) ?_
        refine x_next ⟨.inl (cx.pick1 i hi), ?_⟩
        refine x_one (i := 10) (by kernel_rfl) rfl ?_
        refine s_bsl1 cx Try.underlying50 sz94 z94 rfl rfl rfl rfl rfl rfl rfl rfl ?_; intro b117 w cx hb117 hw117
        have hzs := (Fz.new (L := L) (R := (⟨94, 4, .slice va n vc, n, cs⟩ :: R)) (o := .cells ([.slice pa p.length pc, .slice qa b.toList.length qc, .slice ra o.toList.length rc, .slice sa t.toList.length sc] : List Value).toArray 94) hb117 hw117).trans Fz.tl
        have hr117 : RowAt w b117 0 [.slice pa p.length pc, .slice qa b.toList.length qc, .slice ra o.toList.length rc, .slice sa t.toList.length sc] := cx.row 0 rfl
        replace hz := hz.trans hzs
        replace hp109 := hzs.pthB hp109
        replace hp111 := hzs.repLB hp111
        replace hp113 := hzs.repLB hp113
        replace hp115 := hzs.repLB hp115
        replace cx := cx.tl
        refine x_next ⟨.inl (cx.pick1 i hi), ?_⟩
        refine x_one (i := 11) (by kernel_rfl) rfl ?_
        refine s_appendG (m := 1) cx ei94 Try.underlying50 rfl rfl rfl rfl rfl hr117 rfl rfl (by rw [mg_4 hn1 hn2 hmo] at hnb; simp only [List.length_singleton] at hnb; omega) ?_; intro v118 w cx hgr118 hnw118
        have hzs := Fz.app (L := L) (R := R) (r := ⟨94, 4, .slice va n vc, n, cs⟩) (r' := ⟨94, 4, v118, n + 1, cs ++ [.slice pa p.length pc, .slice qa b.toList.length qc, .slice ra o.toList.length rc, .slice sa t.toList.length sc]⟩) hgr118 hnw118
        replace hz := hz.trans hzs
        replace hp109 := hzs.pthB hp109
        replace hp111 := hzs.repLB hp111
        replace hp113 := hzs.repLB hp113
        replace hp115 := hzs.repLB hp115
        refine x_next ⟨.inr (by kernel_rfl), ?_⟩
        refine x_one (i := 12) (by kernel_rfl) rfl ?_
        refine s_store1G (v := v118) cx i rfl rfl rfl rfl rfl (own_one cx.head) hi rfl rfl ?_; intro w cx hg16
        have hzs := Fz.set (R := ⟨94, 4, v118, n + 1, cs ++ [.slice pa p.length pc, .slice qa b.toList.length qc, .slice ra o.toList.length rc, .slice sa t.toList.length sc]⟩ :: R) (o' := .cells ([v118] : List Value).toArray 50) hi hg16
        replace hz := hz.trans hzs
        have hcfn : cfA _ w (⟨p, b, o, t⟩ : Cf) [.slice pa p.length pc, .slice qa b.toList.length qc, .slice ra o.toList.length rc, .slice sa t.toList.length sc] := ⟨_, _, _, _, rfl, hzs.pthB hp109, hzs.repLB hp111, hzs.repLB hp113, hzs.repLB hp115⟩
        refine x_next ⟨.inr (by kernel_rfl), ?_⟩
        refine x_done (by kernel_rfl) ?_
        refine wp_seq ?_
        refine wp_seq ?_
        refine wp_region_lit ?_
        have hO23 := hz.tkr htkr
        obtain ⟨_, _, _, ta, tc, tb, to, htkc, htkd⟩ := hO23
        have htlt : decide (((n : Nat) : Int) < ((tk.length : Nat) : Int)) = true → n < tk.length := fun h => by have := of_decide_eq_true h; omega
        refine s_val rfl rfl (v_move rfl rfl) ?_
        refine s_val rfl rfl (v_load1 rfl rfl Try.underlying55 rfl (htkc.cell 0 rfl)) ?_
        refine s_val rfl rfl (v_lenSlice rfl rfl Try.underlying55) ?_
        refine s_val rfl rfl (v_cmp rfl rfl rfl rfl) ?_
        refine s_val rfl rfl (v_move rfl rfl) ?_
        refine s_gval rfl rfl rfl (by first | exact w_tt rfl | exact w_gt rfl) (fun hc => v_load1 rfl rfl Try.underlying55 rfl (htkc.cell 0 rfl)) ?_
        refine s_gval rfl rfl rfl (by first | exact w_tt rfl | exact w_gt rfl) (fun hc => v_move rfl (by first | exact gve hc rfl | exact gve (and_l hc) rfl | exact gve (and_l (and_l hc)) rfl | rfl)) ?_
        refine s_gval rfl rfl rfl (by first | exact w_tt rfl | exact w_gt rfl) (fun hc => v_ia Try.underlying55 sz4 rfl ((gve hc rfl).trans (congrArg (fun a => Value.slice a tk.length tc) (htkd (Nat.lt_of_le_of_lt (Nat.zero_le _) (htlt hc))).1)) (gve hc rfl) (by omega) (by have := htlt hc; omega)) ?_
        refine s_gval rfl rfl rfl (by first | exact w_tt rfl | exact w_gt rfl) (fun hc => v_load1 rfl (gve hc rfl) Try.underlying4 rfl ((htkd (Nat.lt_of_le_of_lt (Nat.zero_le _) (htlt hc))).2.2 _ (.bool (tk.getD n false)) (by have := htlt hc; rw [Int.toNat_natCast, Nat.mul_one]; simp [List.getD, this]))) ?_
        refine s_val rfl rfl (v_and rfl rfl rfl rfl) ?_
        refine wpList_nil ?_
        refine c_split rfl (fun hc128 => ?_) (fun hc128 => ?_)
        · skip
          skip
          refine wp_seq ?_
          refine wp_region_lit ?_
          refine s_val rfl rfl (v_move rfl rfl) ?_
          refine s_val rfl rfl (v_assign rfl rfl) ?_
          refine wpList_nil ?_
          refine wp_ret ?_
          refine ret_tmp Try.results89 rfl ?_
          have hgt : tk.getD n false = true := and_r hc128
          have hmg : mg E tk (d + 1) n p b o t = (t, [⟨p, b, o, t⟩]) := by rw [mg_4 hn1 hn2 hmo, if_pos hgt]
          exact MgP.cast hmg ⟨v118, [[.slice pa p.length pc, .slice qa b.toList.length qc, .slice ra o.toList.length rc, .slice sa t.toList.length sc]], cx, hz, hz.ptr ht, ⟨hcfn, trivial⟩⟩
        · skip
          skip
          refine wp_skip ?_
          refine wp_seq ?_
          refine wp_region_lit ?_
          refine s_val rfl rfl (v_move rfl rfl) ?_
          refine s_val rfl rfl (v_assign rfl rfl) ?_
          refine wpList_nil ?_
          refine wp_ret ?_
          refine ret_tmp Try.results89 rfl ?_
          have hgf : ¬ tk.getD n false = true := fun h => by
            have h2 := hc128
            rw [h, Bool.and_true] at h2
            have h3 : ¬ n < tk.length := by simpa using h2
            rw [List.getD, List.getElem?_eq_none (by omega)] at h
            cases h
          have hmg : mg E tk (d + 1) n p b o t = (o, [⟨p, b, o, t⟩]) := by rw [mg_4 hn1 hn2 hmo, if_neg hgf]
          exact MgP.cast hmg ⟨v118, [[.slice pa p.length pc, .slice qa b.toList.length qc, .slice ra o.toList.length rc, .slice sa t.toList.length sc]], cx, hz, hz.ptr ho, ⟨hcfn, trivial⟩⟩
end Go.Proofs.Ytmkihcdcgkdilaa
