/-
  The law DiffBack, where what it reads is small: the statement, and what it rests on.
-/
import Derived.Test.YtmkihcdcgkdilaaPK
import Derived.ProofKit
import Derived.Test.YtmkihcdcgkdilaaRows
import Derived.WalkKit
import Derived.OpenShut
import Derived.JoinedCond
section
namespace Go.Proofs.Ytmkihcdcgkdilaa
open Go Go.Dk Go.RowKit
set_option linter.unusedSimpArgs false
set_option linter.unusedVariables false
attribute [local irreducible] Go.wpList Go.Code.wp Go.bodyPost Go.wpStill
theorem cg_inv {c : Ch} (h : CGood c) : CGood (invC c) := by
  have h1 := h.op1
  have h3 := h.op3
  rcases (show c.op = 1 ∨ c.op = 2 ∨ c.op = 3 by omega) with e | e | e
  · rw [inv1 e]
    exact ⟨h.op1, h.op3, h.pth, h.pos0, h.pos1, h.ne, h.pk, fun h' => absurd (h'.symm.trans e) (by decide), fun h' => absurd (h'.symm.trans e) (by decide), fun _ => h.gn (by omega), fun _ => h.go (by omega), h.fn, h.fo⟩
  · rw [inv2 e]
    exact ⟨show (1 : Int) ≤ 3 by decide, show (3 : Int) ≤ 3 by decide, h.pth, h.pos0, h.pos1, fun _ => h.ne (by omega), fun h' => ⟨show ¬ (3 : Int) = 1 by decide, (h.pk h').2⟩, fun h' => absurd h' (show ¬ (3 : Int) = 2 by decide), fun _ => h.zo e, fun _ => h.gn (by omega), fun h' => absurd rfl h', h.fn, h.fo⟩
  · rw [inv3 e]
    exact ⟨show (1 : Int) ≤ 2 by decide, show (2 : Int) ≤ 3 by decide, h.pth, h.pos0, h.pos1, fun _ => h.ne (by omega), fun h' => ⟨show ¬ (2 : Int) = 1 by decide, (h.pk h').2⟩, fun _ => h.zn e, fun h' => absurd h' (show ¬ (2 : Int) = 3 by decide), fun h' => absurd rfl h', fun _ => h.go (by omega), h.fn, h.fo⟩
theorem cg_invs {cs : List Ch} (h : ∀ c ∈ cs, CGood c) : ∀ c ∈ (cs.map invC).reverse, CGood c := fun c hc => by
  obtain ⟨d, hd, rfl⟩ := List.mem_map.1 (List.mem_reverse.1 hc)
  exact cg_inv (h d hd)
structure QB (z : V) (r33 : List Value) (s1 : Value) (B : List Ch) (b2 b3 : Nat) (ra rb : List Value) (w : World) (L : List (Nat × Obj)) : Prop where
  r : RepV (F w L []) w z r33
  c : ChsA (F w L []) w s1 B
  a : F w L [] b2 ∧ RowAt w b2 0 ra
  b : F w L [] b3 ∧ RowAt w b3 0 rb
theorem QB.mv {z : V} {r33 : List Value} {s1 : Value} {B : List Ch} {b2 b3 : Nat} {ra rb : List Value} {w w' : World} {L L' : List (Nat × Obj)} (h : QB z r33 s1 B b2 b3 ra rb w L) (hz : Fz w L [] w' L' []) : QB z r33 s1 B b2 b3 ra rb w' L' :=
  ⟨hz.rep h.r, hz.chsF h.c, rowF hz h.a, rowF hz h.b⟩
theorem len0 {α : Type} (l : List α) : ((l.length : Int) == 0) = true ↔ l = [] := by
  rw [beq_iff_eq, ← List.length_eq_zero_iff]; omega
theorem valF {w : World} {L : List (Nat × Obj)} {R : List Row} {v : V} {r : List Value} (h : RepV (F w L R) w v r) : Val w v r := RepV.mono F.lt (fun _ _ => rfl) _ _ h
set_option maxRecDepth 10000 in
set_option maxHeartbeats 6400000 in
theorem c16 (av bv : V) (ra rb : List Value) (w0 : World) (ha : Val w0 av ra) (hb : Val w0 bv rb) (hfa : Fine av) (hfb : Fine bv) : Fc Try.prog 16 [.agg ra.toArray, .agg rb.toArray] w0 (IsB fun b => b = true) := by
  obtain ⟨E, hE⟩ := classic_eqB
  refine ret_enter Try.func16 rfl Try.ntmps16 rfl ?_
  have cx := Ctx.start w0
  refine wp_seq ?_
  refine wp_region_lit ?_
  refine s_box cx rfl rfl rfl rfl rfl ?_; intro b2 w cx hb2 hw2
  refine s_box cx rfl rfl rfl rfl rfl ?_; intro b3 w cx hb3 hw3
  refine s_val rfl rfl (v_assign rfl rfl) ?_
  refine wpList_nil ?_
  refine wp_seq ?_
  refine wp_seq ?_
  refine wp_region_lit ?_
  refine s_val rfl rfl (v_load rfl rfl Try.underlying33 rfl sz33 (cx.row 1 rfl) ha.len) ?_
  refine s_fnB cx (c17x _ _ _ (ha.up cx.ext) hfa) Try.func17 rfl rfl rfl rfl rfl rfl ?_; intro q15 w cx hw15 hp15
  refine s_val rfl rfl (v_not rfl rfl) ?_
  refine s_val rfl rfl (v_move rfl rfl) ?_
  refine s_gval rfl rfl rfl wF (fun hc => v_load rfl rfl Try.underlying33 rfl sz33 (cx.row 0 rfl) hb.len) ?_
  refine s_gfnB cx rfl rfl rfl wF (fun hc => c17x _ _ _ (hb.up cx.ext) hfb) Try.func17 rfl rfl rfl (fun hc => (cons_eq (gve hc rfl) rfl)) ?_; intro q19 w cx hw19 hp19
  refine s_gval rfl rfl rfl wF (fun hc => v_not rfl (by first | exact gve hc rfl | exact gve (and_l hc) rfl | exact gve (and_l (and_l hc)) rfl | rfl)) ?_
  refine s_val rfl rfl (v_or rfl rfl rfl rfl) ?_
  refine wpList_nil ?_
  refine c_split rfl (fun hc21 => ?_) (fun hc21 => ?_)
  · skip
    refine wp_seq ?_
    refine wp_region_lit ?_
    refine s_val rfl rfl (v_assign rfl rfl) ?_
    refine wpList_nil ?_
    refine wp_ret ?_
    refine ret_tmp Try.results16 rfl ?_
    exact ⟨cx.ext, _, rfl, rfl⟩
  have hq : q15 = true ∧ q19 = true := by
    cases q15 <;> cases q19 <;> simp_all
  obtain ⟨rfl, rfl⟩ := hq
  have hO1 := hp15 rfl
  obtain ⟨ga, da, za⟩ := hO1
  have hO2 := hp19 rfl rfl
  obtain ⟨gb, db, zb⟩ := hO2
  have e1 := tsz_deep 48 60 av (gok_deep 48 av ga) (by decide)
  have e2 := tsz_deep 48 60 bv (gok_deep 48 bv gb) (by decide)
  have hnar := nar_small 48 av bv (by omega) (by omega)
  have h1 := btw_few E 48 [] av bv ga.okd
  have hcg := btw_cg E 48 [] av bv ga gb (by omega) (by decide) (fun s h => by cases h)
  have hiff := btw_iff hE ga gb (by omega)
  have hdif := dfr_iff hE ga gb
  have hO3 := btw_way hE ga gb (by omega)
  obtain ⟨z, hch, hgz, hcz⟩ := hO3
  have hfz := gok_fine hgz.1 (Nat.le_trans hgz.2 (by decide))
  have hga : GW av := ⟨ga, by omega⟩
  have hbk := hch.inv hga
  have hcg2 := cg_invs hcg
  have hE0 : MkE (btw E 48 [] av bv) = 0 := if_neg (by omega)
  have hB0 : MkB (btw E 48 [] av bv) = btw E 48 [] av bv := if_neg (by omega)
  have hO4 : ∃ B, B = btw E 48 [] av bv := ⟨_, rfl⟩
  obtain ⟨B, hB⟩ := hO4
  rw [← hB] at h1 hcg hiff hch hbk hcg2
  have hBl : ((B.map invC).reverse).length ≤ 4096 := by rw [List.length_reverse, List.length_map]; omega
  have hdl := dfr_len (E := E) 48 [] av bv
  refine wp_skip ?_
  refine wp_seq ?_
  refine wp_region_lit ?_
  refine s_val rfl rfl (v_load rfl rfl Try.underlying33 rfl sz33 (cx.row 1 rfl) ha.len) ?_
  refine s_val rfl rfl (v_load rfl rfl Try.underlying33 rfl sz33 (cx.row 0 rfl) hb.len) ?_
  refine s_fn cx (c40 E hE av bv _ _ _ (ha.up cx.ext) (hb.up cx.ext) ga.okd gb.okd hfa hfb hnar (by rw [← hB]; omega)) Try.func40 rfl rfl rfl rfl rfl rfl ?_; intro q25 w cx hw25 hp25
  obtain ⟨s1, rfl, hs1⟩ := hp25
  rw [hB0, ← hB] at hs1
  rw [hE0]
  have hO5 := hs1.form
  obtain ⟨a1, c1, x1, y1, rfl, _, _⟩ := hO5
  refine s_val rfl rfl (v_move rfl rfl) ?_
  refine s_val rfl rfl (v_extract rfl rfl rfl) ?_
  refine s_val rfl rfl (v_extract rfl rfl rfl) ?_
  refine s_val rfl rfl (v_assign rfl rfl) ?_
  refine s_val rfl rfl (v_assign rfl rfl) ?_
  refine wpList_nil ?_
  refine wp_seq ?_
  refine wp_seq ?_
  refine wp_region_lit ?_
  refine s_val rfl rfl (v_move rfl rfl) ?_
  refine s_val rfl rfl (v_cmp rfl rfl rfl rfl) ?_
  refine wpList_nil ?_
  refine c_split rfl (fun hc29 => ?_) (fun hc29 => ?_)
  · skip
    exfalso
    simp at hc29
  refine wp_skip ?_
  refine wp_seq ?_
  refine wp_region_lit ?_
  refine s_val rfl rfl (v_load rfl rfl Try.underlying33 rfl sz33 (cx.row 1 rfl) ha.len) ?_
  refine s_val rfl rfl (v_move rfl rfl) ?_
  replace hs1 := hs1.toA
  have hrow2 : F w [] [] b2 ∧ RowAt w b2 0 ra := ⟨⟨cx.lt (b2, _) (List.mem_cons_of_mem _ (List.mem_cons_self ..)), by simp, by simp⟩, cx.row 1 rfl⟩
  have hrow3 : F w [] [] b3 ∧ RowAt w b3 0 rb := ⟨⟨cx.lt (b3, _) (List.mem_cons_self ..), by simp, by simp⟩, cx.row 0 rfl⟩
  have hva := rep0 (ha.up cx.ext)
  replace cx := cx.tl.tl
  have cxp := cx
  refine s_fn cx (c44 B av z ra _ _ _ F.lt hch hcg (by omega) hga hva hs1) Try.func44 rfl rfl rfl rfl rfl rfl ?_; intro q33 w cx hw33 hp33
  obtain ⟨r33, rfl, hr33⟩ := hp33
  replace hr33 := fResV cxp hw33 hr33
  have hQ : QB z r33 _ B b2 b3 ra rb w [] := ⟨hr33, (Fz.belC cx hw33).chsF hs1, rowF (Fz.belC cx hw33) hrow2, rowF (Fz.belC cx hw33) hrow3⟩
  refine s_val rfl rfl (v_move rfl rfl) ?_
  refine s_val rfl rfl (v_extract rfl rfl rfl) ?_
  refine s_val rfl rfl (v_extract rfl rfl rfl) ?_
  refine s_val rfl rfl (v_extract rfl rfl rfl) ?_
  refine s_alloc cx z33 rfl rfl rfl ?_; intro b7 w cx hb7 hw7
  replace hQ := hQ.mv (Fz.newC cx hb7 hw7)
  refine s_storeAllG cx 0 rfl rfl rfl rfl rfl rfl (by rw [hQ.r.len]; exact sz33) (by rw [hQ.r.len]; rfl) hQ.r.one ?_; intro w cx hg6
  replace cx := cx.set0
  replace hQ := hQ.mv (fzSetC cx hg6)
  refine s_val rfl rfl (v_assign rfl rfl) ?_
  refine s_val rfl rfl (v_assign rfl rfl) ?_
  refine wpList_nil ?_
  refine w_cut (fun f w1 => ∃ (b10 : Nat) (r41 : List Value), f 2 = .pointer (some ⟨b2, 0, none⟩) ∧ f 3 = .pointer (some ⟨b3, 0, none⟩) ∧ f 5 = .slice a1 B.length c1 ∧ f 7 = .pointer (some ⟨b7, 0, none⟩) ∧ f 9 = .int .i64 0 ∧ f 10 = .pointer (some ⟨b10, 0, none⟩) ∧ f 12 = .int .i64 0 ∧ Cxr w0 w1 [(b10, .cells r41.toArray 33), (b7, .cells r33.toArray 33)] [] ∧ RepV (F w1 [(b10, .cells r41.toArray 33), (b7, .cells r33.toArray 33)] []) w1 av r41 ∧ QB z r33 (.slice a1 B.length c1) B b2 b3 ra rb w1 [(b10, .cells r41.toArray 33), (b7, .cells r33.toArray 33)]) ?_ ?_
  · skip
    refine w_ord cx (cx.pick1 0 rfl) mixed [(0, 38), (1, 39)] #[true, true, false, false, false, false, false, false, false, false, false, false] (by kernel_rfl) (by kernel_rfl) (by kernel_rfl) (by kernel_rfl) ?_
    refine pu_one rfl (wnt_none rfl) (fun w cx => v_load rfl rfl Try.underlying33 rfl sz33 (cx.row 0 rfl) hQ.r.len) ?_
    refine pu_one rfl (wnt_none rfl) (fun w cx => v_move rfl rfl) ?_
    refine pu_nil ?_; intro w cx hwD7
    replace hQ := hQ.mv (Fz.belC cx hwD7)
    refine x_two (i := 2) (j := 8) (by kernel_rfl) rfl rfl ?_ ?_
    · skip
      have cxp := cx
      refine s_fn cx (c45 B _ _ _ F.lt hcg (by omega) hQ.c) Try.func45 rfl rfl rfl rfl rfl rfl ?_; intro q40 w cx hw40 hp40
      have hs2 := fResC cxp hw40 hp40
      replace hQ := hQ.mv (Fz.belC cx hw40)
      refine x_next ⟨.inl (cx.pick1 0 rfl), ?_⟩
      refine x_two (i := 3) (j := 8) (by kernel_rfl) rfl rfl ?_ ?_
      · skip
        have cxp := cx
        refine s_fn cx (c44 ((B.map invC).reverse) z av _ _ _ _ F.lt hbk hcg2 hBl hgz hQ.r hs2) Try.func44 rfl rfl rfl rfl rfl rfl ?_; intro q41 w cx hw41 hp41
        obtain ⟨r41, rfl, hr41⟩ := hp41
        replace hr41 := fResV cxp hw41 hr41
        replace hQ := hQ.mv (Fz.belC cx hw41)
        refine x_next ⟨.inr (by kernel_rfl), ?_⟩
        refine x_two (i := 4) (j := 8) (by kernel_rfl) rfl rfl ?_ ?_
        · skip
          refine s_val rfl rfl (v_move rfl rfl) ?_
          refine x_next ⟨.inr (by kernel_rfl), ?_⟩
          refine x_four (i := 5) (j := 6) (m := 7) (n4 := 8) (by kernel_rfl) rfl rfl rfl rfl ?_ ?_ ?_ ?_
          · skip
            refine s_val rfl rfl (v_extract rfl rfl rfl) ?_
            refine x_next ⟨.inr (by kernel_rfl), ?_⟩
            refine x_three (i := 6) (j := 7) (m := 8) (by kernel_rfl) rfl rfl rfl ?_ ?_ ?_
            · skip
              refine s_val rfl rfl (v_extract rfl rfl rfl) ?_
              refine x_next ⟨.inr (by kernel_rfl), ?_⟩
              refine x_two (i := 7) (j := 8) (by kernel_rfl) rfl rfl ?_ ?_
              · skip
                refine s_val rfl rfl (v_extract rfl rfl rfl) ?_
                refine x_next ⟨.inr (by kernel_rfl), ?_⟩
                refine x_one (i := 8) (by kernel_rfl) rfl ?_
                refine s_alloc cx z33 rfl rfl rfl ?_; intro b10 w cx hb10 hw10
                replace hQ := hQ.mv (Fz.newC cx hb10 hw10)
                try replace hs2 := (Fz.newC cx hb10 hw10).chsF hs2
                try replace hr41 := (Fz.newC cx hb10 hw10).rep hr41
                refine x_next ⟨.inl (cx.pick1 1 rfl), ?_⟩
                refine x_one (i := 9) (by kernel_rfl) rfl ?_
                refine s_storeAllG cx 0 rfl rfl rfl rfl rfl rfl (by rw [hr41.len]; exact sz33) (by rw [hr41.len]; rfl) hr41.one ?_; intro w cx hg7
                replace cx := cx.set0
                replace hQ := hQ.mv (fzSetC cx hg7)
                replace hr41 := (fzSetC cx hg7).rep hr41
                refine x_next ⟨.inr (by kernel_rfl), ?_⟩
                refine x_one (i := 10) (by kernel_rfl) rfl ?_
                refine s_val rfl rfl (v_assign rfl rfl) ?_
                refine x_next ⟨.inr (by kernel_rfl), ?_⟩
                refine x_one (i := 11) (by kernel_rfl) rfl ?_
                refine s_val rfl rfl (v_assign rfl rfl) ?_
                refine x_next ⟨.inr (by kernel_rfl), ?_⟩
                refine x_done (by kernel_rfl) ?_
                exact ⟨_, rfl, b10, r41, rfl, rfl, rfl, rfl, rfl, rfl, rfl, cx, hr41, hQ⟩
              refine s_alloc cx z33 rfl rfl rfl ?_; intro b10 w cx hb10 hw10
              replace hQ := hQ.mv (Fz.newC cx hb10 hw10)
              try replace hs2 := (Fz.newC cx hb10 hw10).chsF hs2
              try replace hr41 := (Fz.newC cx hb10 hw10).rep hr41
              refine x_next ⟨.inl (cx.pick1 1 rfl), ?_⟩
              refine x_two (i := 7) (j := 9) (by kernel_rfl) rfl rfl ?_ ?_
              · skip
                refine s_val rfl rfl (v_extract rfl rfl rfl) ?_
                refine x_next ⟨.inr (by kernel_rfl), ?_⟩
                refine x_one (i := 9) (by kernel_rfl) rfl ?_
                refine s_storeAllG cx 0 rfl rfl rfl rfl rfl rfl (by rw [hr41.len]; exact sz33) (by rw [hr41.len]; rfl) hr41.one ?_; intro w cx hg7
                replace cx := cx.set0
                replace hQ := hQ.mv (fzSetC cx hg7)
                replace hr41 := (fzSetC cx hg7).rep hr41
                refine x_next ⟨.inr (by kernel_rfl), ?_⟩
                refine x_one (i := 10) (by kernel_rfl) rfl ?_
                refine s_val rfl rfl (v_assign rfl rfl) ?_
                refine x_next ⟨.inr (by kernel_rfl), ?_⟩
                refine x_one (i := 11) (by kernel_rfl) rfl ?_
                refine s_val rfl rfl (v_assign rfl rfl) ?_
                refine x_next ⟨.inr (by kernel_rfl), ?_⟩
                refine x_done (by kernel_rfl) ?_
                exact ⟨_, rfl, b10, r41, rfl, rfl, rfl, rfl, rfl, rfl, rfl, cx, hr41, hQ⟩
              refine s_storeAllG cx 0 rfl rfl rfl rfl rfl rfl (by rw [hr41.len]; exact sz33) (by rw [hr41.len]; rfl) hr41.one ?_; intro w cx hg7
              replace cx := cx.set0
              replace hQ := hQ.mv (fzSetC cx hg7)
              replace hr41 := (fzSetC cx hg7).rep hr41
              refine x_next ⟨.inr (by kernel_rfl), ?_⟩
              refine x_two (i := 7) (j := 10) (by kernel_rfl) rfl rfl ?_ ?_
              · skip
                refine s_val rfl rfl (v_extract rfl rfl rfl) ?_
                refine x_next ⟨.inr (by kernel_rfl), ?_⟩
                refine x_one (i := 10) (by kernel_rfl) rfl ?_
                refine s_val rfl rfl (v_assign rfl rfl) ?_
                refine x_next ⟨.inr (by kernel_rfl), ?_⟩
                refine x_one (i := 11) (by kernel_rfl) rfl ?_
                refine s_val rfl rfl (v_assign rfl rfl) ?_
                refine x_next ⟨.inr (by kernel_rfl), ?_⟩
                refine x_done (by kernel_rfl) ?_
                exact ⟨_, rfl, b10, r41, rfl, rfl, rfl, rfl, rfl, rfl, rfl, cx, hr41, hQ⟩
              refine s_val rfl rfl (v_assign rfl rfl) ?_
              refine x_next ⟨.inr (by kernel_rfl), ?_⟩
              refine x_one (i := 7) (by kernel_rfl) rfl ?_
              refine s_val rfl rfl (v_extract rfl rfl rfl) ?_
              refine x_next ⟨.inr (by kernel_rfl), ?_⟩
              refine x_one (i := 11) (by kernel_rfl) rfl ?_
              refine s_val rfl rfl (v_assign rfl rfl) ?_
              refine x_next ⟨.inr (by kernel_rfl), ?_⟩
              refine x_done (by kernel_rfl) ?_
              exact ⟨_, rfl, b10, r41, rfl, rfl, rfl, rfl, rfl, rfl, rfl, cx, hr41, hQ⟩
            · skip
              refine s_val rfl rfl (v_extract rfl rfl rfl) ?_
              refine x_next ⟨.inr (by kernel_rfl), ?_⟩
              refine x_two (i := 6) (j := 8) (by kernel_rfl) rfl rfl ?_ ?_
              · skip
                refine s_val rfl rfl (v_extract rfl rfl rfl) ?_
                refine x_next ⟨.inr (by kernel_rfl), ?_⟩
                refine x_one (i := 8) (by kernel_rfl) rfl ?_
                refine s_alloc cx z33 rfl rfl rfl ?_; intro b10 w cx hb10 hw10
                replace hQ := hQ.mv (Fz.newC cx hb10 hw10)
                try replace hs2 := (Fz.newC cx hb10 hw10).chsF hs2
                try replace hr41 := (Fz.newC cx hb10 hw10).rep hr41
                refine x_next ⟨.inl (cx.pick1 1 rfl), ?_⟩
                refine x_one (i := 9) (by kernel_rfl) rfl ?_
                refine s_storeAllG cx 0 rfl rfl rfl rfl rfl rfl (by rw [hr41.len]; exact sz33) (by rw [hr41.len]; rfl) hr41.one ?_; intro w cx hg7
                replace cx := cx.set0
                replace hQ := hQ.mv (fzSetC cx hg7)
                replace hr41 := (fzSetC cx hg7).rep hr41
                refine x_next ⟨.inr (by kernel_rfl), ?_⟩
                refine x_one (i := 10) (by kernel_rfl) rfl ?_
                refine s_val rfl rfl (v_assign rfl rfl) ?_
                refine x_next ⟨.inr (by kernel_rfl), ?_⟩
                refine x_one (i := 11) (by kernel_rfl) rfl ?_
                refine s_val rfl rfl (v_assign rfl rfl) ?_
                refine x_next ⟨.inr (by kernel_rfl), ?_⟩
                refine x_done (by kernel_rfl) ?_
                exact ⟨_, rfl, b10, r41, rfl, rfl, rfl, rfl, rfl, rfl, rfl, cx, hr41, hQ⟩
              refine s_alloc cx z33 rfl rfl rfl ?_; intro b10 w cx hb10 hw10
              replace hQ := hQ.mv (Fz.newC cx hb10 hw10)
              try replace hs2 := (Fz.newC cx hb10 hw10).chsF hs2
              try replace hr41 := (Fz.newC cx hb10 hw10).rep hr41
              refine x_next ⟨.inl (cx.pick1 1 rfl), ?_⟩
              refine x_two (i := 6) (j := 9) (by kernel_rfl) rfl rfl ?_ ?_
              · skip
                refine s_val rfl rfl (v_extract rfl rfl rfl) ?_
                refine x_next ⟨.inr (by kernel_rfl), ?_⟩
                refine x_one (i := 9) (by kernel_rfl) rfl ?_
                refine s_storeAllG cx 0 rfl rfl rfl rfl rfl rfl (by rw [hr41.len]; exact sz33) (by rw [hr41.len]; rfl) hr41.one ?_; intro w cx hg7
                replace cx := cx.set0
                replace hQ := hQ.mv (fzSetC cx hg7)
                replace hr41 := (fzSetC cx hg7).rep hr41
                refine x_next ⟨.inr (by kernel_rfl), ?_⟩
                refine x_one (i := 10) (by kernel_rfl) rfl ?_
                refine s_val rfl rfl (v_assign rfl rfl) ?_
                refine x_next ⟨.inr (by kernel_rfl), ?_⟩
                refine x_one (i := 11) (by kernel_rfl) rfl ?_
                refine s_val rfl rfl (v_assign rfl rfl) ?_
                refine x_next ⟨.inr (by kernel_rfl), ?_⟩
                refine x_done (by kernel_rfl) ?_
                exact ⟨_, rfl, b10, r41, rfl, rfl, rfl, rfl, rfl, rfl, rfl, cx, hr41, hQ⟩
              refine s_storeAllG cx 0 rfl rfl rfl rfl rfl rfl (by rw [hr41.len]; exact sz33) (by rw [hr41.len]; rfl) hr41.one ?_; intro w cx hg7
              replace cx := cx.set0
              replace hQ := hQ.mv (fzSetC cx hg7)
              replace hr41 := (fzSetC cx hg7).rep hr41
              refine x_next ⟨.inr (by kernel_rfl), ?_⟩
              refine x_one (i := 6) (by kernel_rfl) rfl ?_
              refine s_val rfl rfl (v_extract rfl rfl rfl) ?_
              refine x_next ⟨.inr (by kernel_rfl), ?_⟩
              refine x_one (i := 10) (by kernel_rfl) rfl ?_
              refine s_val rfl rfl (v_assign rfl rfl) ?_
              refine x_next ⟨.inr (by kernel_rfl), ?_⟩
              refine x_one (i := 11) (by kernel_rfl) rfl ?_
              refine s_val rfl rfl (v_assign rfl rfl) ?_
              refine x_next ⟨.inr (by kernel_rfl), ?_⟩
              refine x_done (by kernel_rfl) ?_
              exact ⟨_, rfl, b10, r41, rfl, rfl, rfl, rfl, rfl, rfl, rfl, cx, hr41, hQ⟩
            refine s_alloc cx z33 rfl rfl rfl ?_; intro b10 w cx hb10 hw10
            replace hQ := hQ.mv (Fz.newC cx hb10 hw10)
            try replace hs2 := (Fz.newC cx hb10 hw10).chsF hs2
            try replace hr41 := (Fz.newC cx hb10 hw10).rep hr41
            refine x_next ⟨.inl (cx.pick1 1 rfl), ?_⟩
            refine x_three (i := 6) (j := 7) (m := 9) (by kernel_rfl) rfl rfl rfl ?_ ?_ ?_
            · skip
              refine s_val rfl rfl (v_extract rfl rfl rfl) ?_
              refine x_next ⟨.inr (by kernel_rfl), ?_⟩
              refine x_two (i := 7) (j := 9) (by kernel_rfl) rfl rfl ?_ ?_
              · skip
                refine s_val rfl rfl (v_extract rfl rfl rfl) ?_
                refine x_next ⟨.inr (by kernel_rfl), ?_⟩
                refine x_one (i := 9) (by kernel_rfl) rfl ?_
                refine s_storeAllG cx 0 rfl rfl rfl rfl rfl rfl (by rw [hr41.len]; exact sz33) (by rw [hr41.len]; rfl) hr41.one ?_; intro w cx hg7
                replace cx := cx.set0
                replace hQ := hQ.mv (fzSetC cx hg7)
                replace hr41 := (fzSetC cx hg7).rep hr41
                refine x_next ⟨.inr (by kernel_rfl), ?_⟩
                refine x_one (i := 10) (by kernel_rfl) rfl ?_
                refine s_val rfl rfl (v_assign rfl rfl) ?_
                refine x_next ⟨.inr (by kernel_rfl), ?_⟩
                refine x_one (i := 11) (by kernel_rfl) rfl ?_
                refine s_val rfl rfl (v_assign rfl rfl) ?_
                refine x_next ⟨.inr (by kernel_rfl), ?_⟩
                refine x_done (by kernel_rfl) ?_
                exact ⟨_, rfl, b10, r41, rfl, rfl, rfl, rfl, rfl, rfl, rfl, cx, hr41, hQ⟩
              refine s_storeAllG cx 0 rfl rfl rfl rfl rfl rfl (by rw [hr41.len]; exact sz33) (by rw [hr41.len]; rfl) hr41.one ?_; intro w cx hg7
              replace cx := cx.set0
              replace hQ := hQ.mv (fzSetC cx hg7)
              replace hr41 := (fzSetC cx hg7).rep hr41
              refine x_next ⟨.inr (by kernel_rfl), ?_⟩
              refine x_two (i := 7) (j := 10) (by kernel_rfl) rfl rfl ?_ ?_
              · skip
                refine s_val rfl rfl (v_extract rfl rfl rfl) ?_
                refine x_next ⟨.inr (by kernel_rfl), ?_⟩
                refine x_one (i := 10) (by kernel_rfl) rfl ?_
                refine s_val rfl rfl (v_assign rfl rfl) ?_
                refine x_next ⟨.inr (by kernel_rfl), ?_⟩
                refine x_one (i := 11) (by kernel_rfl) rfl ?_
                refine s_val rfl rfl (v_assign rfl rfl) ?_
                refine x_next ⟨.inr (by kernel_rfl), ?_⟩
                refine x_done (by kernel_rfl) ?_
                exact ⟨_, rfl, b10, r41, rfl, rfl, rfl, rfl, rfl, rfl, rfl, cx, hr41, hQ⟩
              refine s_val rfl rfl (v_assign rfl rfl) ?_
              refine x_next ⟨.inr (by kernel_rfl), ?_⟩
              refine x_one (i := 7) (by kernel_rfl) rfl ?_
              refine s_val rfl rfl (v_extract rfl rfl rfl) ?_
              refine x_next ⟨.inr (by kernel_rfl), ?_⟩
              refine x_one (i := 11) (by kernel_rfl) rfl ?_
              refine s_val rfl rfl (v_assign rfl rfl) ?_
              refine x_next ⟨.inr (by kernel_rfl), ?_⟩
              refine x_done (by kernel_rfl) ?_
              exact ⟨_, rfl, b10, r41, rfl, rfl, rfl, rfl, rfl, rfl, rfl, cx, hr41, hQ⟩
            · skip
              refine s_val rfl rfl (v_extract rfl rfl rfl) ?_
              refine x_next ⟨.inr (by kernel_rfl), ?_⟩
              refine x_two (i := 6) (j := 9) (by kernel_rfl) rfl rfl ?_ ?_
              · skip
                refine s_val rfl rfl (v_extract rfl rfl rfl) ?_
                refine x_next ⟨.inr (by kernel_rfl), ?_⟩
                refine x_one (i := 9) (by kernel_rfl) rfl ?_
                refine s_storeAllG cx 0 rfl rfl rfl rfl rfl rfl (by rw [hr41.len]; exact sz33) (by rw [hr41.len]; rfl) hr41.one ?_; intro w cx hg7
                replace cx := cx.set0
                replace hQ := hQ.mv (fzSetC cx hg7)
                replace hr41 := (fzSetC cx hg7).rep hr41
                refine x_next ⟨.inr (by kernel_rfl), ?_⟩
                refine x_one (i := 10) (by kernel_rfl) rfl ?_
                refine s_val rfl rfl (v_assign rfl rfl) ?_
                refine x_next ⟨.inr (by kernel_rfl), ?_⟩
                refine x_one (i := 11) (by kernel_rfl) rfl ?_
                refine s_val rfl rfl (v_assign rfl rfl) ?_
                refine x_next ⟨.inr (by kernel_rfl), ?_⟩
                refine x_done (by kernel_rfl) ?_
                exact ⟨_, rfl, b10, r41, rfl, rfl, rfl, rfl, rfl, rfl, rfl, cx, hr41, hQ⟩
              refine s_storeAllG cx 0 rfl rfl rfl rfl rfl rfl (by rw [hr41.len]; exact sz33) (by rw [hr41.len]; rfl) hr41.one ?_; intro w cx hg7
              replace cx := cx.set0
              replace hQ := hQ.mv (fzSetC cx hg7)
              replace hr41 := (fzSetC cx hg7).rep hr41
              refine x_next ⟨.inr (by kernel_rfl), ?_⟩
              refine x_one (i := 6) (by kernel_rfl) rfl ?_
              refine s_val rfl rfl (v_extract rfl rfl rfl) ?_
              refine x_next ⟨.inr (by kernel_rfl), ?_⟩
              refine x_one (i := 10) (by kernel_rfl) rfl ?_
              refine s_val rfl rfl (v_assign rfl rfl) ?_
              refine x_next ⟨.inr (by kernel_rfl), ?_⟩
              refine x_one (i := 11) (by kernel_rfl) rfl ?_
              refine s_val rfl rfl (v_assign rfl rfl) ?_
              refine x_next ⟨.inr (by kernel_rfl), ?_⟩
              refine x_done (by kernel_rfl) ?_
              exact ⟨_, rfl, b10, r41, rfl, rfl, rfl, rfl, rfl, rfl, rfl, cx, hr41, hQ⟩
            refine s_storeAllG cx 0 rfl rfl rfl rfl rfl rfl (by rw [hr41.len]; exact sz33) (by rw [hr41.len]; rfl) hr41.one ?_; intro w cx hg7
            replace cx := cx.set0
            replace hQ := hQ.mv (fzSetC cx hg7)
            replace hr41 := (fzSetC cx hg7).rep hr41
            refine x_next ⟨.inr (by kernel_rfl), ?_⟩
            refine x_two (i := 6) (j := 7) (by kernel_rfl) rfl rfl ?_ ?_
            · skip
              refine s_val rfl rfl (v_extract rfl rfl rfl) ?_
              refine x_next ⟨.inr (by kernel_rfl), ?_⟩
              refine x_two (i := 7) (j := 10) (by kernel_rfl) rfl rfl ?_ ?_
              · skip
                refine s_val rfl rfl (v_extract rfl rfl rfl) ?_
                refine x_next ⟨.inr (by kernel_rfl), ?_⟩
                refine x_one (i := 10) (by kernel_rfl) rfl ?_
                refine s_val rfl rfl (v_assign rfl rfl) ?_
                refine x_next ⟨.inr (by kernel_rfl), ?_⟩
                refine x_one (i := 11) (by kernel_rfl) rfl ?_
                refine s_val rfl rfl (v_assign rfl rfl) ?_
                refine x_next ⟨.inr (by kernel_rfl), ?_⟩
                refine x_done (by kernel_rfl) ?_
                exact ⟨_, rfl, b10, r41, rfl, rfl, rfl, rfl, rfl, rfl, rfl, cx, hr41, hQ⟩
              refine s_val rfl rfl (v_assign rfl rfl) ?_
              refine x_next ⟨.inr (by kernel_rfl), ?_⟩
              refine x_one (i := 7) (by kernel_rfl) rfl ?_
              refine s_val rfl rfl (v_extract rfl rfl rfl) ?_
              refine x_next ⟨.inr (by kernel_rfl), ?_⟩
              refine x_one (i := 11) (by kernel_rfl) rfl ?_
              refine s_val rfl rfl (v_assign rfl rfl) ?_
              refine x_next ⟨.inr (by kernel_rfl), ?_⟩
              refine x_done (by kernel_rfl) ?_
              exact ⟨_, rfl, b10, r41, rfl, rfl, rfl, rfl, rfl, rfl, rfl, cx, hr41, hQ⟩
            refine s_val rfl rfl (v_extract rfl rfl rfl) ?_
            refine x_next ⟨.inr (by kernel_rfl), ?_⟩
            refine x_one (i := 6) (by kernel_rfl) rfl ?_
            refine s_val rfl rfl (v_extract rfl rfl rfl) ?_
            refine x_next ⟨.inr (by kernel_rfl), ?_⟩
            refine x_one (i := 10) (by kernel_rfl) rfl ?_
            refine s_val rfl rfl (v_assign rfl rfl) ?_
            refine x_next ⟨.inr (by kernel_rfl), ?_⟩
            refine x_one (i := 11) (by kernel_rfl) rfl ?_
            refine s_val rfl rfl (v_assign rfl rfl) ?_
            refine x_next ⟨.inr (by kernel_rfl), ?_⟩
            refine x_done (by kernel_rfl) ?_
            exact ⟨_, rfl, b10, r41, rfl, rfl, rfl, rfl, rfl, rfl, rfl, cx, hr41, hQ⟩
          · skip
            refine s_val rfl rfl (v_extract rfl rfl rfl) ?_
            refine x_next ⟨.inr (by kernel_rfl), ?_⟩
            refine x_three (i := 5) (j := 7) (m := 8) (by kernel_rfl) rfl rfl rfl ?_ ?_ ?_
            · skip
              refine s_val rfl rfl (v_extract rfl rfl rfl) ?_
              refine x_next ⟨.inr (by kernel_rfl), ?_⟩
              refine x_two (i := 7) (j := 8) (by kernel_rfl) rfl rfl ?_ ?_
              · skip
                refine s_val rfl rfl (v_extract rfl rfl rfl) ?_
                refine x_next ⟨.inr (by kernel_rfl), ?_⟩
                refine x_one (i := 8) (by kernel_rfl) rfl ?_
                refine s_alloc cx z33 rfl rfl rfl ?_; intro b10 w cx hb10 hw10
                replace hQ := hQ.mv (Fz.newC cx hb10 hw10)
                try replace hs2 := (Fz.newC cx hb10 hw10).chsF hs2
                try replace hr41 := (Fz.newC cx hb10 hw10).rep hr41
                refine x_next ⟨.inl (cx.pick1 1 rfl), ?_⟩
                refine x_one (i := 9) (by kernel_rfl) rfl ?_
                refine s_storeAllG cx 0 rfl rfl rfl rfl rfl rfl (by rw [hr41.len]; exact sz33) (by rw [hr41.len]; rfl) hr41.one ?_; intro w cx hg7
                replace cx := cx.set0
                replace hQ := hQ.mv (fzSetC cx hg7)
                replace hr41 := (fzSetC cx hg7).rep hr41
                refine x_next ⟨.inr (by kernel_rfl), ?_⟩
                refine x_one (i := 10) (by kernel_rfl) rfl ?_
                refine s_val rfl rfl (v_assign rfl rfl) ?_
                refine x_next ⟨.inr (by kernel_rfl), ?_⟩
                refine x_one (i := 11) (by kernel_rfl) rfl ?_
                refine s_val rfl rfl (v_assign rfl rfl) ?_
                refine x_next ⟨.inr (by kernel_rfl), ?_⟩
                refine x_done (by kernel_rfl) ?_
                exact ⟨_, rfl, b10, r41, rfl, rfl, rfl, rfl, rfl, rfl, rfl, cx, hr41, hQ⟩
              refine s_alloc cx z33 rfl rfl rfl ?_; intro b10 w cx hb10 hw10
              replace hQ := hQ.mv (Fz.newC cx hb10 hw10)
              try replace hs2 := (Fz.newC cx hb10 hw10).chsF hs2
              try replace hr41 := (Fz.newC cx hb10 hw10).rep hr41
              refine x_next ⟨.inl (cx.pick1 1 rfl), ?_⟩
              refine x_two (i := 7) (j := 9) (by kernel_rfl) rfl rfl ?_ ?_
              · skip
                refine s_val rfl rfl (v_extract rfl rfl rfl) ?_
                refine x_next ⟨.inr (by kernel_rfl), ?_⟩
                refine x_one (i := 9) (by kernel_rfl) rfl ?_
                refine s_storeAllG cx 0 rfl rfl rfl rfl rfl rfl (by rw [hr41.len]; exact sz33) (by rw [hr41.len]; rfl) hr41.one ?_; intro w cx hg7
                replace cx := cx.set0
                replace hQ := hQ.mv (fzSetC cx hg7)
                replace hr41 := (fzSetC cx hg7).rep hr41
                refine x_next ⟨.inr (by kernel_rfl), ?_⟩
                refine x_one (i := 10) (by kernel_rfl) rfl ?_
                refine s_val rfl rfl (v_assign rfl rfl) ?_
                refine x_next ⟨.inr (by kernel_rfl), ?_⟩
                refine x_one (i := 11) (by kernel_rfl) rfl ?_
                refine s_val rfl rfl (v_assign rfl rfl) ?_
                refine x_next ⟨.inr (by kernel_rfl), ?_⟩
                refine x_done (by kernel_rfl) ?_
                exact ⟨_, rfl, b10, r41, rfl, rfl, rfl, rfl, rfl, rfl, rfl, cx, hr41, hQ⟩
              refine s_storeAllG cx 0 rfl rfl rfl rfl rfl rfl (by rw [hr41.len]; exact sz33) (by rw [hr41.len]; rfl) hr41.one ?_; intro w cx hg7
              replace cx := cx.set0
              replace hQ := hQ.mv (fzSetC cx hg7)
              replace hr41 := (fzSetC cx hg7).rep hr41
              refine x_next ⟨.inr (by kernel_rfl), ?_⟩
              refine x_two (i := 7) (j := 10) (by kernel_rfl) rfl rfl ?_ ?_
              · skip
                refine s_val rfl rfl (v_extract rfl rfl rfl) ?_
                refine x_next ⟨.inr (by kernel_rfl), ?_⟩
                refine x_one (i := 10) (by kernel_rfl) rfl ?_
                refine s_val rfl rfl (v_assign rfl rfl) ?_
                refine x_next ⟨.inr (by kernel_rfl), ?_⟩
                refine x_one (i := 11) (by kernel_rfl) rfl ?_
                refine s_val rfl rfl (v_assign rfl rfl) ?_
                refine x_next ⟨.inr (by kernel_rfl), ?_⟩
                refine x_done (by kernel_rfl) ?_
                exact ⟨_, rfl, b10, r41, rfl, rfl, rfl, rfl, rfl, rfl, rfl, cx, hr41, hQ⟩
              refine s_val rfl rfl (v_assign rfl rfl) ?_
              refine x_next ⟨.inr (by kernel_rfl), ?_⟩
              refine x_one (i := 7) (by kernel_rfl) rfl ?_
              refine s_val rfl rfl (v_extract rfl rfl rfl) ?_
              refine x_next ⟨.inr (by kernel_rfl), ?_⟩
              refine x_one (i := 11) (by kernel_rfl) rfl ?_
              refine s_val rfl rfl (v_assign rfl rfl) ?_
              refine x_next ⟨.inr (by kernel_rfl), ?_⟩
              refine x_done (by kernel_rfl) ?_
              exact ⟨_, rfl, b10, r41, rfl, rfl, rfl, rfl, rfl, rfl, rfl, cx, hr41, hQ⟩
            · skip
              refine s_val rfl rfl (v_extract rfl rfl rfl) ?_
              refine x_next ⟨.inr (by kernel_rfl), ?_⟩
              refine x_two (i := 5) (j := 8) (by kernel_rfl) rfl rfl ?_ ?_
              · skip
                refine s_val rfl rfl (v_extract rfl rfl rfl) ?_
                refine x_next ⟨.inr (by kernel_rfl), ?_⟩
                refine x_one (i := 8) (by kernel_rfl) rfl ?_
                refine s_alloc cx z33 rfl rfl rfl ?_; intro b10 w cx hb10 hw10
                replace hQ := hQ.mv (Fz.newC cx hb10 hw10)
                try replace hs2 := (Fz.newC cx hb10 hw10).chsF hs2
                try replace hr41 := (Fz.newC cx hb10 hw10).rep hr41
                refine x_next ⟨.inl (cx.pick1 1 rfl), ?_⟩
                refine x_one (i := 9) (by kernel_rfl) rfl ?_
                refine s_storeAllG cx 0 rfl rfl rfl rfl rfl rfl (by rw [hr41.len]; exact sz33) (by rw [hr41.len]; rfl) hr41.one ?_; intro w cx hg7
                replace cx := cx.set0
                replace hQ := hQ.mv (fzSetC cx hg7)
                replace hr41 := (fzSetC cx hg7).rep hr41
                refine x_next ⟨.inr (by kernel_rfl), ?_⟩
                refine x_one (i := 10) (by kernel_rfl) rfl ?_
                refine s_val rfl rfl (v_assign rfl rfl) ?_
                refine x_next ⟨.inr (by kernel_rfl), ?_⟩
                refine x_one (i := 11) (by kernel_rfl) rfl ?_
                refine s_val rfl rfl (v_assign rfl rfl) ?_
                refine x_next ⟨.inr (by kernel_rfl), ?_⟩
                refine x_done (by kernel_rfl) ?_
                exact ⟨_, rfl, b10, r41, rfl, rfl, rfl, rfl, rfl, rfl, rfl, cx, hr41, hQ⟩
              refine s_alloc cx z33 rfl rfl rfl ?_; intro b10 w cx hb10 hw10
              replace hQ := hQ.mv (Fz.newC cx hb10 hw10)
              try replace hs2 := (Fz.newC cx hb10 hw10).chsF hs2
              try replace hr41 := (Fz.newC cx hb10 hw10).rep hr41
              refine x_next ⟨.inl (cx.pick1 1 rfl), ?_⟩
              refine x_one (i := 5) (by kernel_rfl) rfl ?_
              refine s_val rfl rfl (v_extract rfl rfl rfl) ?_
              refine x_next ⟨.inr (by kernel_rfl), ?_⟩
              refine x_one (i := 9) (by kernel_rfl) rfl ?_
              refine s_storeAllG cx 0 rfl rfl rfl rfl rfl rfl (by rw [hr41.len]; exact sz33) (by rw [hr41.len]; rfl) hr41.one ?_; intro w cx hg7
              replace cx := cx.set0
              replace hQ := hQ.mv (fzSetC cx hg7)
              replace hr41 := (fzSetC cx hg7).rep hr41
              refine x_next ⟨.inr (by kernel_rfl), ?_⟩
              refine x_one (i := 10) (by kernel_rfl) rfl ?_
              refine s_val rfl rfl (v_assign rfl rfl) ?_
              refine x_next ⟨.inr (by kernel_rfl), ?_⟩
              refine x_one (i := 11) (by kernel_rfl) rfl ?_
              refine s_val rfl rfl (v_assign rfl rfl) ?_
              refine x_next ⟨.inr (by kernel_rfl), ?_⟩
              refine x_done (by kernel_rfl) ?_
              exact ⟨_, rfl, b10, r41, rfl, rfl, rfl, rfl, rfl, rfl, rfl, cx, hr41, hQ⟩
            refine s_alloc cx z33 rfl rfl rfl ?_; intro b10 w cx hb10 hw10
            replace hQ := hQ.mv (Fz.newC cx hb10 hw10)
            try replace hs2 := (Fz.newC cx hb10 hw10).chsF hs2
            try replace hr41 := (Fz.newC cx hb10 hw10).rep hr41
            refine x_next ⟨.inl (cx.pick1 1 rfl), ?_⟩
            refine x_two (i := 5) (j := 7) (by kernel_rfl) rfl rfl ?_ ?_
            · skip
              refine s_val rfl rfl (v_extract rfl rfl rfl) ?_
              refine x_next ⟨.inr (by kernel_rfl), ?_⟩
              refine x_two (i := 7) (j := 9) (by kernel_rfl) rfl rfl ?_ ?_
              · skip
                refine s_val rfl rfl (v_extract rfl rfl rfl) ?_
                refine x_next ⟨.inr (by kernel_rfl), ?_⟩
                refine x_one (i := 9) (by kernel_rfl) rfl ?_
                refine s_storeAllG cx 0 rfl rfl rfl rfl rfl rfl (by rw [hr41.len]; exact sz33) (by rw [hr41.len]; rfl) hr41.one ?_; intro w cx hg7
                replace cx := cx.set0
                replace hQ := hQ.mv (fzSetC cx hg7)
                replace hr41 := (fzSetC cx hg7).rep hr41
                refine x_next ⟨.inr (by kernel_rfl), ?_⟩
                refine x_one (i := 10) (by kernel_rfl) rfl ?_
                refine s_val rfl rfl (v_assign rfl rfl) ?_
                refine x_next ⟨.inr (by kernel_rfl), ?_⟩
                refine x_one (i := 11) (by kernel_rfl) rfl ?_
                refine s_val rfl rfl (v_assign rfl rfl) ?_
                refine x_next ⟨.inr (by kernel_rfl), ?_⟩
                refine x_done (by kernel_rfl) ?_
                exact ⟨_, rfl, b10, r41, rfl, rfl, rfl, rfl, rfl, rfl, rfl, cx, hr41, hQ⟩
              refine s_storeAllG cx 0 rfl rfl rfl rfl rfl rfl (by rw [hr41.len]; exact sz33) (by rw [hr41.len]; rfl) hr41.one ?_; intro w cx hg7
              replace cx := cx.set0
              replace hQ := hQ.mv (fzSetC cx hg7)
              replace hr41 := (fzSetC cx hg7).rep hr41
              refine x_next ⟨.inr (by kernel_rfl), ?_⟩
              refine x_two (i := 7) (j := 10) (by kernel_rfl) rfl rfl ?_ ?_
              · skip
                refine s_val rfl rfl (v_extract rfl rfl rfl) ?_
                refine x_next ⟨.inr (by kernel_rfl), ?_⟩
                refine x_one (i := 10) (by kernel_rfl) rfl ?_
                refine s_val rfl rfl (v_assign rfl rfl) ?_
                refine x_next ⟨.inr (by kernel_rfl), ?_⟩
                refine x_one (i := 11) (by kernel_rfl) rfl ?_
                refine s_val rfl rfl (v_assign rfl rfl) ?_
                refine x_next ⟨.inr (by kernel_rfl), ?_⟩
                refine x_done (by kernel_rfl) ?_
                exact ⟨_, rfl, b10, r41, rfl, rfl, rfl, rfl, rfl, rfl, rfl, cx, hr41, hQ⟩
              refine s_val rfl rfl (v_assign rfl rfl) ?_
              refine x_next ⟨.inr (by kernel_rfl), ?_⟩
              refine x_one (i := 7) (by kernel_rfl) rfl ?_
              refine s_val rfl rfl (v_extract rfl rfl rfl) ?_
              refine x_next ⟨.inr (by kernel_rfl), ?_⟩
              refine x_one (i := 11) (by kernel_rfl) rfl ?_
              refine s_val rfl rfl (v_assign rfl rfl) ?_
              refine x_next ⟨.inr (by kernel_rfl), ?_⟩
              refine x_done (by kernel_rfl) ?_
              exact ⟨_, rfl, b10, r41, rfl, rfl, rfl, rfl, rfl, rfl, rfl, cx, hr41, hQ⟩
            refine s_val rfl rfl (v_extract rfl rfl rfl) ?_
            refine x_next ⟨.inr (by kernel_rfl), ?_⟩
            refine x_one (i := 5) (by kernel_rfl) rfl ?_
            refine s_val rfl rfl (v_extract rfl rfl rfl) ?_
            refine x_next ⟨.inr (by kernel_rfl), ?_⟩
            refine x_one (i := 9) (by kernel_rfl) rfl ?_
            refine s_storeAllG cx 0 rfl rfl rfl rfl rfl rfl (by rw [hr41.len]; exact sz33) (by rw [hr41.len]; rfl) hr41.one ?_; intro w cx hg7
            replace cx := cx.set0
            replace hQ := hQ.mv (fzSetC cx hg7)
            replace hr41 := (fzSetC cx hg7).rep hr41
            refine x_next ⟨.inr (by kernel_rfl), ?_⟩
            refine x_one (i := 10) (by kernel_rfl) rfl ?_
            refine s_val rfl rfl (v_assign rfl rfl) ?_
            refine x_next ⟨.inr (by kernel_rfl), ?_⟩
            refine x_one (i := 11) (by kernel_rfl) rfl ?_
            refine s_val rfl rfl (v_assign rfl rfl) ?_
            refine x_next ⟨.inr (by kernel_rfl), ?_⟩
            refine x_done (by kernel_rfl) ?_
            exact ⟨_, rfl, b10, r41, rfl, rfl, rfl, rfl, rfl, rfl, rfl, cx, hr41, hQ⟩
          · skip
            refine s_val rfl rfl (v_extract rfl rfl rfl) ?_
            refine x_next ⟨.inr (by kernel_rfl), ?_⟩
            refine x_three (i := 5) (j := 6) (m := 8) (by kernel_rfl) rfl rfl rfl ?_ ?_ ?_
            · skip
              refine s_val rfl rfl (v_extract rfl rfl rfl) ?_
              refine x_next ⟨.inr (by kernel_rfl), ?_⟩
              refine x_two (i := 6) (j := 8) (by kernel_rfl) rfl rfl ?_ ?_
              · skip
                refine s_val rfl rfl (v_extract rfl rfl rfl) ?_
                refine x_next ⟨.inr (by kernel_rfl), ?_⟩
                refine x_one (i := 8) (by kernel_rfl) rfl ?_
                refine s_alloc cx z33 rfl rfl rfl ?_; intro b10 w cx hb10 hw10
                replace hQ := hQ.mv (Fz.newC cx hb10 hw10)
                try replace hs2 := (Fz.newC cx hb10 hw10).chsF hs2
                try replace hr41 := (Fz.newC cx hb10 hw10).rep hr41
                refine x_next ⟨.inl (cx.pick1 1 rfl), ?_⟩
                refine x_one (i := 9) (by kernel_rfl) rfl ?_
                refine s_storeAllG cx 0 rfl rfl rfl rfl rfl rfl (by rw [hr41.len]; exact sz33) (by rw [hr41.len]; rfl) hr41.one ?_; intro w cx hg7
                replace cx := cx.set0
                replace hQ := hQ.mv (fzSetC cx hg7)
                replace hr41 := (fzSetC cx hg7).rep hr41
                refine x_next ⟨.inr (by kernel_rfl), ?_⟩
                refine x_one (i := 10) (by kernel_rfl) rfl ?_
                refine s_val rfl rfl (v_assign rfl rfl) ?_
                refine x_next ⟨.inr (by kernel_rfl), ?_⟩
                refine x_one (i := 11) (by kernel_rfl) rfl ?_
                refine s_val rfl rfl (v_assign rfl rfl) ?_
                refine x_next ⟨.inr (by kernel_rfl), ?_⟩
                refine x_done (by kernel_rfl) ?_
                exact ⟨_, rfl, b10, r41, rfl, rfl, rfl, rfl, rfl, rfl, rfl, cx, hr41, hQ⟩
              refine s_alloc cx z33 rfl rfl rfl ?_; intro b10 w cx hb10 hw10
              replace hQ := hQ.mv (Fz.newC cx hb10 hw10)
              try replace hs2 := (Fz.newC cx hb10 hw10).chsF hs2
              try replace hr41 := (Fz.newC cx hb10 hw10).rep hr41
              refine x_next ⟨.inl (cx.pick1 1 rfl), ?_⟩
              refine x_two (i := 6) (j := 9) (by kernel_rfl) rfl rfl ?_ ?_
              · skip
                refine s_val rfl rfl (v_extract rfl rfl rfl) ?_
                refine x_next ⟨.inr (by kernel_rfl), ?_⟩
                refine x_one (i := 9) (by kernel_rfl) rfl ?_
                refine s_storeAllG cx 0 rfl rfl rfl rfl rfl rfl (by rw [hr41.len]; exact sz33) (by rw [hr41.len]; rfl) hr41.one ?_; intro w cx hg7
                replace cx := cx.set0
                replace hQ := hQ.mv (fzSetC cx hg7)
                replace hr41 := (fzSetC cx hg7).rep hr41
                refine x_next ⟨.inr (by kernel_rfl), ?_⟩
                refine x_one (i := 10) (by kernel_rfl) rfl ?_
                refine s_val rfl rfl (v_assign rfl rfl) ?_
                refine x_next ⟨.inr (by kernel_rfl), ?_⟩
                refine x_one (i := 11) (by kernel_rfl) rfl ?_
                refine s_val rfl rfl (v_assign rfl rfl) ?_
                refine x_next ⟨.inr (by kernel_rfl), ?_⟩
                refine x_done (by kernel_rfl) ?_
                exact ⟨_, rfl, b10, r41, rfl, rfl, rfl, rfl, rfl, rfl, rfl, cx, hr41, hQ⟩
              refine s_storeAllG cx 0 rfl rfl rfl rfl rfl rfl (by rw [hr41.len]; exact sz33) (by rw [hr41.len]; rfl) hr41.one ?_; intro w cx hg7
              replace cx := cx.set0
              replace hQ := hQ.mv (fzSetC cx hg7)
              replace hr41 := (fzSetC cx hg7).rep hr41
              refine x_next ⟨.inr (by kernel_rfl), ?_⟩
              refine x_one (i := 6) (by kernel_rfl) rfl ?_
              refine s_val rfl rfl (v_extract rfl rfl rfl) ?_
              refine x_next ⟨.inr (by kernel_rfl), ?_⟩
              refine x_one (i := 10) (by kernel_rfl) rfl ?_
              refine s_val rfl rfl (v_assign rfl rfl) ?_
              refine x_next ⟨.inr (by kernel_rfl), ?_⟩
              refine x_one (i := 11) (by kernel_rfl) rfl ?_
              refine s_val rfl rfl (v_assign rfl rfl) ?_
              refine x_next ⟨.inr (by kernel_rfl), ?_⟩
              refine x_done (by kernel_rfl) ?_
              exact ⟨_, rfl, b10, r41, rfl, rfl, rfl, rfl, rfl, rfl, rfl, cx, hr41, hQ⟩
            · skip
              refine s_val rfl rfl (v_extract rfl rfl rfl) ?_
              refine x_next ⟨.inr (by kernel_rfl), ?_⟩
              refine x_two (i := 5) (j := 8) (by kernel_rfl) rfl rfl ?_ ?_
              · skip
                refine s_val rfl rfl (v_extract rfl rfl rfl) ?_
                refine x_next ⟨.inr (by kernel_rfl), ?_⟩
                refine x_one (i := 8) (by kernel_rfl) rfl ?_
                refine s_alloc cx z33 rfl rfl rfl ?_; intro b10 w cx hb10 hw10
                replace hQ := hQ.mv (Fz.newC cx hb10 hw10)
                try replace hs2 := (Fz.newC cx hb10 hw10).chsF hs2
                try replace hr41 := (Fz.newC cx hb10 hw10).rep hr41
                refine x_next ⟨.inl (cx.pick1 1 rfl), ?_⟩
                refine x_one (i := 9) (by kernel_rfl) rfl ?_
                refine s_storeAllG cx 0 rfl rfl rfl rfl rfl rfl (by rw [hr41.len]; exact sz33) (by rw [hr41.len]; rfl) hr41.one ?_; intro w cx hg7
                replace cx := cx.set0
                replace hQ := hQ.mv (fzSetC cx hg7)
                replace hr41 := (fzSetC cx hg7).rep hr41
                refine x_next ⟨.inr (by kernel_rfl), ?_⟩
                refine x_one (i := 10) (by kernel_rfl) rfl ?_
                refine s_val rfl rfl (v_assign rfl rfl) ?_
                refine x_next ⟨.inr (by kernel_rfl), ?_⟩
                refine x_one (i := 11) (by kernel_rfl) rfl ?_
                refine s_val rfl rfl (v_assign rfl rfl) ?_
                refine x_next ⟨.inr (by kernel_rfl), ?_⟩
                refine x_done (by kernel_rfl) ?_
                exact ⟨_, rfl, b10, r41, rfl, rfl, rfl, rfl, rfl, rfl, rfl, cx, hr41, hQ⟩
              refine s_alloc cx z33 rfl rfl rfl ?_; intro b10 w cx hb10 hw10
              replace hQ := hQ.mv (Fz.newC cx hb10 hw10)
              try replace hs2 := (Fz.newC cx hb10 hw10).chsF hs2
              try replace hr41 := (Fz.newC cx hb10 hw10).rep hr41
              refine x_next ⟨.inl (cx.pick1 1 rfl), ?_⟩
              refine x_one (i := 5) (by kernel_rfl) rfl ?_
              refine s_val rfl rfl (v_extract rfl rfl rfl) ?_
              refine x_next ⟨.inr (by kernel_rfl), ?_⟩
              refine x_one (i := 9) (by kernel_rfl) rfl ?_
              refine s_storeAllG cx 0 rfl rfl rfl rfl rfl rfl (by rw [hr41.len]; exact sz33) (by rw [hr41.len]; rfl) hr41.one ?_; intro w cx hg7
              replace cx := cx.set0
              replace hQ := hQ.mv (fzSetC cx hg7)
              replace hr41 := (fzSetC cx hg7).rep hr41
              refine x_next ⟨.inr (by kernel_rfl), ?_⟩
              refine x_one (i := 10) (by kernel_rfl) rfl ?_
              refine s_val rfl rfl (v_assign rfl rfl) ?_
              refine x_next ⟨.inr (by kernel_rfl), ?_⟩
              refine x_one (i := 11) (by kernel_rfl) rfl ?_
              refine s_val rfl rfl (v_assign rfl rfl) ?_
              refine x_next ⟨.inr (by kernel_rfl), ?_⟩
              refine x_done (by kernel_rfl) ?_
              exact ⟨_, rfl, b10, r41, rfl, rfl, rfl, rfl, rfl, rfl, rfl, cx, hr41, hQ⟩
            refine s_alloc cx z33 rfl rfl rfl ?_; intro b10 w cx hb10 hw10
            replace hQ := hQ.mv (Fz.newC cx hb10 hw10)
            try replace hs2 := (Fz.newC cx hb10 hw10).chsF hs2
            try replace hr41 := (Fz.newC cx hb10 hw10).rep hr41
            refine x_next ⟨.inl (cx.pick1 1 rfl), ?_⟩
            refine x_two (i := 5) (j := 6) (by kernel_rfl) rfl rfl ?_ ?_
            · skip
              refine s_val rfl rfl (v_extract rfl rfl rfl) ?_
              refine x_next ⟨.inr (by kernel_rfl), ?_⟩
              refine x_two (i := 6) (j := 9) (by kernel_rfl) rfl rfl ?_ ?_
              · skip
                refine s_val rfl rfl (v_extract rfl rfl rfl) ?_
                refine x_next ⟨.inr (by kernel_rfl), ?_⟩
                refine x_one (i := 9) (by kernel_rfl) rfl ?_
                refine s_storeAllG cx 0 rfl rfl rfl rfl rfl rfl (by rw [hr41.len]; exact sz33) (by rw [hr41.len]; rfl) hr41.one ?_; intro w cx hg7
                replace cx := cx.set0
                replace hQ := hQ.mv (fzSetC cx hg7)
                replace hr41 := (fzSetC cx hg7).rep hr41
                refine x_next ⟨.inr (by kernel_rfl), ?_⟩
                refine x_one (i := 10) (by kernel_rfl) rfl ?_
                refine s_val rfl rfl (v_assign rfl rfl) ?_
                refine x_next ⟨.inr (by kernel_rfl), ?_⟩
                refine x_one (i := 11) (by kernel_rfl) rfl ?_
                refine s_val rfl rfl (v_assign rfl rfl) ?_
                refine x_next ⟨.inr (by kernel_rfl), ?_⟩
                refine x_done (by kernel_rfl) ?_
                exact ⟨_, rfl, b10, r41, rfl, rfl, rfl, rfl, rfl, rfl, rfl, cx, hr41, hQ⟩
              refine s_storeAllG cx 0 rfl rfl rfl rfl rfl rfl (by rw [hr41.len]; exact sz33) (by rw [hr41.len]; rfl) hr41.one ?_; intro w cx hg7
              replace cx := cx.set0
              replace hQ := hQ.mv (fzSetC cx hg7)
              replace hr41 := (fzSetC cx hg7).rep hr41
              refine x_next ⟨.inr (by kernel_rfl), ?_⟩
              refine x_one (i := 6) (by kernel_rfl) rfl ?_
              refine s_val rfl rfl (v_extract rfl rfl rfl) ?_
              refine x_next ⟨.inr (by kernel_rfl), ?_⟩
              refine x_one (i := 10) (by kernel_rfl) rfl ?_
              refine s_val rfl rfl (v_assign rfl rfl) ?_
              refine x_next ⟨.inr (by kernel_rfl), ?_⟩
              refine x_one (i := 11) (by kernel_rfl) rfl ?_
              refine s_val rfl rfl (v_assign rfl rfl) ?_
              refine x_next ⟨.inr (by kernel_rfl), ?_⟩
              refine x_done (by kernel_rfl) ?_
              exact ⟨_, rfl, b10, r41, rfl, rfl, rfl, rfl, rfl, rfl, rfl, cx, hr41, hQ⟩
            refine s_val rfl rfl (v_extract rfl rfl rfl) ?_
            refine x_next ⟨.inr (by kernel_rfl), ?_⟩
            refine x_one (i := 5) (by kernel_rfl) rfl ?_
            refine s_val rfl rfl (v_extract rfl rfl rfl) ?_
            refine x_next ⟨.inr (by kernel_rfl), ?_⟩
            refine x_one (i := 9) (by kernel_rfl) rfl ?_
            refine s_storeAllG cx 0 rfl rfl rfl rfl rfl rfl (by rw [hr41.len]; exact sz33) (by rw [hr41.len]; rfl) hr41.one ?_; intro w cx hg7
            replace cx := cx.set0
            replace hQ := hQ.mv (fzSetC cx hg7)
            replace hr41 := (fzSetC cx hg7).rep hr41
            refine x_next ⟨.inr (by kernel_rfl), ?_⟩
            refine x_one (i := 10) (by kernel_rfl) rfl ?_
            refine s_val rfl rfl (v_assign rfl rfl) ?_
            refine x_next ⟨.inr (by kernel_rfl), ?_⟩
            refine x_one (i := 11) (by kernel_rfl) rfl ?_
            refine s_val rfl rfl (v_assign rfl rfl) ?_
            refine x_next ⟨.inr (by kernel_rfl), ?_⟩
            refine x_done (by kernel_rfl) ?_
            exact ⟨_, rfl, b10, r41, rfl, rfl, rfl, rfl, rfl, rfl, rfl, cx, hr41, hQ⟩
          refine s_alloc cx z33 rfl rfl rfl ?_; intro b10 w cx hb10 hw10
          replace hQ := hQ.mv (Fz.newC cx hb10 hw10)
          try replace hs2 := (Fz.newC cx hb10 hw10).chsF hs2
          try replace hr41 := (Fz.newC cx hb10 hw10).rep hr41
          refine x_next ⟨.inl (cx.pick1 1 rfl), ?_⟩
          refine x_three (i := 5) (j := 6) (m := 7) (by kernel_rfl) rfl rfl rfl ?_ ?_ ?_
          · skip
            refine s_val rfl rfl (v_extract rfl rfl rfl) ?_
            refine x_next ⟨.inr (by kernel_rfl), ?_⟩
            refine x_three (i := 6) (j := 7) (m := 9) (by kernel_rfl) rfl rfl rfl ?_ ?_ ?_
            · skip
              refine s_val rfl rfl (v_extract rfl rfl rfl) ?_
              refine x_next ⟨.inr (by kernel_rfl), ?_⟩
              refine x_two (i := 7) (j := 9) (by kernel_rfl) rfl rfl ?_ ?_
              · skip
                refine s_val rfl rfl (v_extract rfl rfl rfl) ?_
                refine x_next ⟨.inr (by kernel_rfl), ?_⟩
                refine x_one (i := 9) (by kernel_rfl) rfl ?_
                refine s_storeAllG cx 0 rfl rfl rfl rfl rfl rfl (by rw [hr41.len]; exact sz33) (by rw [hr41.len]; rfl) hr41.one ?_; intro w cx hg7
                replace cx := cx.set0
                replace hQ := hQ.mv (fzSetC cx hg7)
                replace hr41 := (fzSetC cx hg7).rep hr41
                refine x_next ⟨.inr (by kernel_rfl), ?_⟩
                refine x_one (i := 10) (by kernel_rfl) rfl ?_
                refine s_val rfl rfl (v_assign rfl rfl) ?_
                refine x_next ⟨.inr (by kernel_rfl), ?_⟩
                refine x_one (i := 11) (by kernel_rfl) rfl ?_
                refine s_val rfl rfl (v_assign rfl rfl) ?_
                refine x_next ⟨.inr (by kernel_rfl), ?_⟩
                refine x_done (by kernel_rfl) ?_
                exact ⟨_, rfl, b10, r41, rfl, rfl, rfl, rfl, rfl, rfl, rfl, cx, hr41, hQ⟩
              refine s_storeAllG cx 0 rfl rfl rfl rfl rfl rfl (by rw [hr41.len]; exact sz33) (by rw [hr41.len]; rfl) hr41.one ?_; intro w cx hg7
              replace cx := cx.set0
              replace hQ := hQ.mv (fzSetC cx hg7)
              replace hr41 := (fzSetC cx hg7).rep hr41
              refine x_next ⟨.inr (by kernel_rfl), ?_⟩
              refine x_two (i := 7) (j := 10) (by kernel_rfl) rfl rfl ?_ ?_
              · skip
                refine s_val rfl rfl (v_extract rfl rfl rfl) ?_
                refine x_next ⟨.inr (by kernel_rfl), ?_⟩
                refine x_one (i := 10) (by kernel_rfl) rfl ?_
                refine s_val rfl rfl (v_assign rfl rfl) ?_
                refine x_next ⟨.inr (by kernel_rfl), ?_⟩
                refine x_one (i := 11) (by kernel_rfl) rfl ?_
                refine s_val rfl rfl (v_assign rfl rfl) ?_
                refine x_next ⟨.inr (by kernel_rfl), ?_⟩
                refine x_done (by kernel_rfl) ?_
                exact ⟨_, rfl, b10, r41, rfl, rfl, rfl, rfl, rfl, rfl, rfl, cx, hr41, hQ⟩
              refine s_val rfl rfl (v_assign rfl rfl) ?_
              refine x_next ⟨.inr (by kernel_rfl), ?_⟩
              refine x_one (i := 7) (by kernel_rfl) rfl ?_
              refine s_val rfl rfl (v_extract rfl rfl rfl) ?_
              refine x_next ⟨.inr (by kernel_rfl), ?_⟩
              refine x_one (i := 11) (by kernel_rfl) rfl ?_
              refine s_val rfl rfl (v_assign rfl rfl) ?_
              refine x_next ⟨.inr (by kernel_rfl), ?_⟩
              refine x_done (by kernel_rfl) ?_
              exact ⟨_, rfl, b10, r41, rfl, rfl, rfl, rfl, rfl, rfl, rfl, cx, hr41, hQ⟩
            · skip
              refine s_val rfl rfl (v_extract rfl rfl rfl) ?_
              refine x_next ⟨.inr (by kernel_rfl), ?_⟩
              refine x_two (i := 6) (j := 9) (by kernel_rfl) rfl rfl ?_ ?_
              · skip
                refine s_val rfl rfl (v_extract rfl rfl rfl) ?_
                refine x_next ⟨.inr (by kernel_rfl), ?_⟩
                refine x_one (i := 9) (by kernel_rfl) rfl ?_
                refine s_storeAllG cx 0 rfl rfl rfl rfl rfl rfl (by rw [hr41.len]; exact sz33) (by rw [hr41.len]; rfl) hr41.one ?_; intro w cx hg7
                replace cx := cx.set0
                replace hQ := hQ.mv (fzSetC cx hg7)
                replace hr41 := (fzSetC cx hg7).rep hr41
                refine x_next ⟨.inr (by kernel_rfl), ?_⟩
                refine x_one (i := 10) (by kernel_rfl) rfl ?_
                refine s_val rfl rfl (v_assign rfl rfl) ?_
                refine x_next ⟨.inr (by kernel_rfl), ?_⟩
                refine x_one (i := 11) (by kernel_rfl) rfl ?_
                refine s_val rfl rfl (v_assign rfl rfl) ?_
                refine x_next ⟨.inr (by kernel_rfl), ?_⟩
                refine x_done (by kernel_rfl) ?_
                exact ⟨_, rfl, b10, r41, rfl, rfl, rfl, rfl, rfl, rfl, rfl, cx, hr41, hQ⟩
              refine s_storeAllG cx 0 rfl rfl rfl rfl rfl rfl (by rw [hr41.len]; exact sz33) (by rw [hr41.len]; rfl) hr41.one ?_; intro w cx hg7
              replace cx := cx.set0
              replace hQ := hQ.mv (fzSetC cx hg7)
              replace hr41 := (fzSetC cx hg7).rep hr41
              refine x_next ⟨.inr (by kernel_rfl), ?_⟩
              refine x_one (i := 6) (by kernel_rfl) rfl ?_
              refine s_val rfl rfl (v_extract rfl rfl rfl) ?_
              refine x_next ⟨.inr (by kernel_rfl), ?_⟩
              refine x_one (i := 10) (by kernel_rfl) rfl ?_
              refine s_val rfl rfl (v_assign rfl rfl) ?_
              refine x_next ⟨.inr (by kernel_rfl), ?_⟩
              refine x_one (i := 11) (by kernel_rfl) rfl ?_
              refine s_val rfl rfl (v_assign rfl rfl) ?_
              refine x_next ⟨.inr (by kernel_rfl), ?_⟩
              refine x_done (by kernel_rfl) ?_
              exact ⟨_, rfl, b10, r41, rfl, rfl, rfl, rfl, rfl, rfl, rfl, cx, hr41, hQ⟩
            refine s_storeAllG cx 0 rfl rfl rfl rfl rfl rfl (by rw [hr41.len]; exact sz33) (by rw [hr41.len]; rfl) hr41.one ?_; intro w cx hg7
            replace cx := cx.set0
            replace hQ := hQ.mv (fzSetC cx hg7)
            replace hr41 := (fzSetC cx hg7).rep hr41
            refine x_next ⟨.inr (by kernel_rfl), ?_⟩
            refine x_two (i := 6) (j := 7) (by kernel_rfl) rfl rfl ?_ ?_
            · skip
              refine s_val rfl rfl (v_extract rfl rfl rfl) ?_
              refine x_next ⟨.inr (by kernel_rfl), ?_⟩
              refine x_two (i := 7) (j := 10) (by kernel_rfl) rfl rfl ?_ ?_
              · skip
                refine s_val rfl rfl (v_extract rfl rfl rfl) ?_
                refine x_next ⟨.inr (by kernel_rfl), ?_⟩
                refine x_one (i := 10) (by kernel_rfl) rfl ?_
                refine s_val rfl rfl (v_assign rfl rfl) ?_
                refine x_next ⟨.inr (by kernel_rfl), ?_⟩
                refine x_one (i := 11) (by kernel_rfl) rfl ?_
                refine s_val rfl rfl (v_assign rfl rfl) ?_
                refine x_next ⟨.inr (by kernel_rfl), ?_⟩
                refine x_done (by kernel_rfl) ?_
                exact ⟨_, rfl, b10, r41, rfl, rfl, rfl, rfl, rfl, rfl, rfl, cx, hr41, hQ⟩
              refine s_val rfl rfl (v_assign rfl rfl) ?_
              refine x_next ⟨.inr (by kernel_rfl), ?_⟩
              refine x_one (i := 7) (by kernel_rfl) rfl ?_
              refine s_val rfl rfl (v_extract rfl rfl rfl) ?_
              refine x_next ⟨.inr (by kernel_rfl), ?_⟩
              refine x_one (i := 11) (by kernel_rfl) rfl ?_
              refine s_val rfl rfl (v_assign rfl rfl) ?_
              refine x_next ⟨.inr (by kernel_rfl), ?_⟩
              refine x_done (by kernel_rfl) ?_
              exact ⟨_, rfl, b10, r41, rfl, rfl, rfl, rfl, rfl, rfl, rfl, cx, hr41, hQ⟩
            refine s_val rfl rfl (v_extract rfl rfl rfl) ?_
            refine x_next ⟨.inr (by kernel_rfl), ?_⟩
            refine x_one (i := 6) (by kernel_rfl) rfl ?_
            refine s_val rfl rfl (v_extract rfl rfl rfl) ?_
            refine x_next ⟨.inr (by kernel_rfl), ?_⟩
            refine x_one (i := 10) (by kernel_rfl) rfl ?_
            refine s_val rfl rfl (v_assign rfl rfl) ?_
            refine x_next ⟨.inr (by kernel_rfl), ?_⟩
            refine x_one (i := 11) (by kernel_rfl) rfl ?_
            refine s_val rfl rfl (v_assign rfl rfl) ?_
            refine x_next ⟨.inr (by kernel_rfl), ?_⟩
            refine x_done (by kernel_rfl) ?_
            exact ⟨_, rfl, b10, r41, rfl, rfl, rfl, rfl, rfl, rfl, rfl, cx, hr41, hQ⟩
          · skip
            refine s_val rfl rfl (v_extract rfl rfl rfl) ?_
            refine x_next ⟨.inr (by kernel_rfl), ?_⟩
            refine x_two (i := 5) (j := 7) (by kernel_rfl) rfl rfl ?_ ?_
            · skip
              refine s_val rfl rfl (v_extract rfl rfl rfl) ?_
              refine x_next ⟨.inr (by kernel_rfl), ?_⟩
              refine x_two (i := 7) (j := 9) (by kernel_rfl) rfl rfl ?_ ?_
              · skip
                refine s_val rfl rfl (v_extract rfl rfl rfl) ?_
                refine x_next ⟨.inr (by kernel_rfl), ?_⟩
                refine x_one (i := 9) (by kernel_rfl) rfl ?_
                refine s_storeAllG cx 0 rfl rfl rfl rfl rfl rfl (by rw [hr41.len]; exact sz33) (by rw [hr41.len]; rfl) hr41.one ?_; intro w cx hg7
                replace cx := cx.set0
                replace hQ := hQ.mv (fzSetC cx hg7)
                replace hr41 := (fzSetC cx hg7).rep hr41
                refine x_next ⟨.inr (by kernel_rfl), ?_⟩
                refine x_one (i := 10) (by kernel_rfl) rfl ?_
                refine s_val rfl rfl (v_assign rfl rfl) ?_
                refine x_next ⟨.inr (by kernel_rfl), ?_⟩
                refine x_one (i := 11) (by kernel_rfl) rfl ?_
                refine s_val rfl rfl (v_assign rfl rfl) ?_
                refine x_next ⟨.inr (by kernel_rfl), ?_⟩
                refine x_done (by kernel_rfl) ?_
                exact ⟨_, rfl, b10, r41, rfl, rfl, rfl, rfl, rfl, rfl, rfl, cx, hr41, hQ⟩
              refine s_storeAllG cx 0 rfl rfl rfl rfl rfl rfl (by rw [hr41.len]; exact sz33) (by rw [hr41.len]; rfl) hr41.one ?_; intro w cx hg7
              replace cx := cx.set0
              replace hQ := hQ.mv (fzSetC cx hg7)
              replace hr41 := (fzSetC cx hg7).rep hr41
              refine x_next ⟨.inr (by kernel_rfl), ?_⟩
              refine x_two (i := 7) (j := 10) (by kernel_rfl) rfl rfl ?_ ?_
              · skip
                refine s_val rfl rfl (v_extract rfl rfl rfl) ?_
                refine x_next ⟨.inr (by kernel_rfl), ?_⟩
                refine x_one (i := 10) (by kernel_rfl) rfl ?_
                refine s_val rfl rfl (v_assign rfl rfl) ?_
                refine x_next ⟨.inr (by kernel_rfl), ?_⟩
                refine x_one (i := 11) (by kernel_rfl) rfl ?_
                refine s_val rfl rfl (v_assign rfl rfl) ?_
                refine x_next ⟨.inr (by kernel_rfl), ?_⟩
                refine x_done (by kernel_rfl) ?_
                exact ⟨_, rfl, b10, r41, rfl, rfl, rfl, rfl, rfl, rfl, rfl, cx, hr41, hQ⟩
              refine s_val rfl rfl (v_assign rfl rfl) ?_
              refine x_next ⟨.inr (by kernel_rfl), ?_⟩
              refine x_one (i := 7) (by kernel_rfl) rfl ?_
              refine s_val rfl rfl (v_extract rfl rfl rfl) ?_
              refine x_next ⟨.inr (by kernel_rfl), ?_⟩
              refine x_one (i := 11) (by kernel_rfl) rfl ?_
              refine s_val rfl rfl (v_assign rfl rfl) ?_
              refine x_next ⟨.inr (by kernel_rfl), ?_⟩
              refine x_done (by kernel_rfl) ?_
              exact ⟨_, rfl, b10, r41, rfl, rfl, rfl, rfl, rfl, rfl, rfl, cx, hr41, hQ⟩
            refine s_val rfl rfl (v_extract rfl rfl rfl) ?_
            refine x_next ⟨.inr (by kernel_rfl), ?_⟩
            refine x_one (i := 5) (by kernel_rfl) rfl ?_
            refine s_val rfl rfl (v_extract rfl rfl rfl) ?_
            refine x_next ⟨.inr (by kernel_rfl), ?_⟩
            refine x_one (i := 9) (by kernel_rfl) rfl ?_
            refine s_storeAllG cx 0 rfl rfl rfl rfl rfl rfl (by rw [hr41.len]; exact sz33) (by rw [hr41.len]; rfl) hr41.one ?_; intro w cx hg7
            replace cx := cx.set0
            replace hQ := hQ.mv (fzSetC cx hg7)
            replace hr41 := (fzSetC cx hg7).rep hr41
            refine x_next ⟨.inr (by kernel_rfl), ?_⟩
            refine x_one (i := 10) (by kernel_rfl) rfl ?_
            refine s_val rfl rfl (v_assign rfl rfl) ?_
            refine x_next ⟨.inr (by kernel_rfl), ?_⟩
            refine x_one (i := 11) (by kernel_rfl) rfl ?_
            refine s_val rfl rfl (v_assign rfl rfl) ?_
            refine x_next ⟨.inr (by kernel_rfl), ?_⟩
            refine x_done (by kernel_rfl) ?_
            exact ⟨_, rfl, b10, r41, rfl, rfl, rfl, rfl, rfl, rfl, rfl, cx, hr41, hQ⟩
          refine s_val rfl rfl (v_extract rfl rfl rfl) ?_
          refine x_next ⟨.inr (by kernel_rfl), ?_⟩
          refine x_two (i := 5) (j := 6) (by kernel_rfl) rfl rfl ?_ ?_
          · skip
            refine s_val rfl rfl (v_extract rfl rfl rfl) ?_
            refine x_next ⟨.inr (by kernel_rfl), ?_⟩
            refine x_two (i := 6) (j := 9) (by kernel_rfl) rfl rfl ?_ ?_
            · skip
              refine s_val rfl rfl (v_extract rfl rfl rfl) ?_
              refine x_next ⟨.inr (by kernel_rfl), ?_⟩
              refine x_one (i := 9) (by kernel_rfl) rfl ?_
              refine s_storeAllG cx 0 rfl rfl rfl rfl rfl rfl (by rw [hr41.len]; exact sz33) (by rw [hr41.len]; rfl) hr41.one ?_; intro w cx hg7
              replace cx := cx.set0
              replace hQ := hQ.mv (fzSetC cx hg7)
              replace hr41 := (fzSetC cx hg7).rep hr41
              refine x_next ⟨.inr (by kernel_rfl), ?_⟩
              refine x_one (i := 10) (by kernel_rfl) rfl ?_
              refine s_val rfl rfl (v_assign rfl rfl) ?_
              refine x_next ⟨.inr (by kernel_rfl), ?_⟩
              refine x_one (i := 11) (by kernel_rfl) rfl ?_
              refine s_val rfl rfl (v_assign rfl rfl) ?_
              refine x_next ⟨.inr (by kernel_rfl), ?_⟩
              refine x_done (by kernel_rfl) ?_
              exact ⟨_, rfl, b10, r41, rfl, rfl, rfl, rfl, rfl, rfl, rfl, cx, hr41, hQ⟩
            refine s_storeAllG cx 0 rfl rfl rfl rfl rfl rfl (by rw [hr41.len]; exact sz33) (by rw [hr41.len]; rfl) hr41.one ?_; intro w cx hg7
            replace cx := cx.set0
            replace hQ := hQ.mv (fzSetC cx hg7)
            replace hr41 := (fzSetC cx hg7).rep hr41
            refine x_next ⟨.inr (by kernel_rfl), ?_⟩
            refine x_one (i := 6) (by kernel_rfl) rfl ?_
            refine s_val rfl rfl (v_extract rfl rfl rfl) ?_
            refine x_next ⟨.inr (by kernel_rfl), ?_⟩
            refine x_one (i := 10) (by kernel_rfl) rfl ?_
            refine s_val rfl rfl (v_assign rfl rfl) ?_
            refine x_next ⟨.inr (by kernel_rfl), ?_⟩
            refine x_one (i := 11) (by kernel_rfl) rfl ?_
            refine s_val rfl rfl (v_assign rfl rfl) ?_
            refine x_next ⟨.inr (by kernel_rfl), ?_⟩
            refine x_done (by kernel_rfl) ?_
            exact ⟨_, rfl, b10, r41, rfl, rfl, rfl, rfl, rfl, rfl, rfl, cx, hr41, hQ⟩
          refine s_val rfl rfl (v_extract rfl rfl rfl) ?_
          refine x_next ⟨.inr (by kernel_rfl), ?_⟩
          refine x_one (i := 5) (by kernel_rfl) rfl ?_
          refine s_val rfl rfl (v_extract rfl rfl rfl) ?_
          refine x_next ⟨.inr (by kernel_rfl), ?_⟩
          refine x_one (i := 9) (by kernel_rfl) rfl ?_
          refine s_storeAllG cx 0 rfl rfl rfl rfl rfl rfl (by rw [hr41.len]; exact sz33) (by rw [hr41.len]; rfl) hr41.one ?_; intro w cx hg7
          replace cx := cx.set0
          replace hQ := hQ.mv (fzSetC cx hg7)
          replace hr41 := (fzSetC cx hg7).rep hr41
          refine x_next ⟨.inr (by kernel_rfl), ?_⟩
          refine x_one (i := 10) (by kernel_rfl) rfl ?_
          refine s_val rfl rfl (v_assign rfl rfl) ?_
          refine x_next ⟨.inr (by kernel_rfl), ?_⟩
          refine x_one (i := 11) (by kernel_rfl) rfl ?_
          refine s_val rfl rfl (v_assign rfl rfl) ?_
          refine x_next ⟨.inr (by kernel_rfl), ?_⟩
          refine x_done (by kernel_rfl) ?_
          exact ⟨_, rfl, b10, r41, rfl, rfl, rfl, rfl, rfl, rfl, rfl, cx, hr41, hQ⟩
        refine s_alloc cx z33 rfl rfl rfl ?_; intro b10 w cx hb10 hw10
        replace hQ := hQ.mv (Fz.newC cx hb10 hw10)
        try replace hs2 := (Fz.newC cx hb10 hw10).chsF hs2
        try replace hr41 := (Fz.newC cx hb10 hw10).rep hr41
        refine x_next ⟨.inl (cx.pick1 1 rfl), ?_⟩
        refine x_one (i := 4) (by kernel_rfl) rfl ?_
        refine s_val rfl rfl (v_move rfl rfl) ?_
        refine x_next ⟨.inr (by kernel_rfl), ?_⟩
        refine x_three (i := 5) (j := 6) (m := 7) (by kernel_rfl) rfl rfl rfl ?_ ?_ ?_
        · skip
          refine s_val rfl rfl (v_extract rfl rfl rfl) ?_
          refine x_next ⟨.inr (by kernel_rfl), ?_⟩
          refine x_three (i := 6) (j := 7) (m := 9) (by kernel_rfl) rfl rfl rfl ?_ ?_ ?_
          · skip
            refine s_val rfl rfl (v_extract rfl rfl rfl) ?_
            refine x_next ⟨.inr (by kernel_rfl), ?_⟩
            refine x_two (i := 7) (j := 9) (by kernel_rfl) rfl rfl ?_ ?_
            · skip
              refine s_val rfl rfl (v_extract rfl rfl rfl) ?_
              refine x_next ⟨.inr (by kernel_rfl), ?_⟩
              refine x_one (i := 9) (by kernel_rfl) rfl ?_
              refine s_storeAllG cx 0 rfl rfl rfl rfl rfl rfl (by rw [hr41.len]; exact sz33) (by rw [hr41.len]; rfl) hr41.one ?_; intro w cx hg7
              replace cx := cx.set0
              replace hQ := hQ.mv (fzSetC cx hg7)
              replace hr41 := (fzSetC cx hg7).rep hr41
              refine x_next ⟨.inr (by kernel_rfl), ?_⟩
              refine x_one (i := 10) (by kernel_rfl) rfl ?_
              refine s_val rfl rfl (v_assign rfl rfl) ?_
              refine x_next ⟨.inr (by kernel_rfl), ?_⟩
              refine x_one (i := 11) (by kernel_rfl) rfl ?_
              refine s_val rfl rfl (v_assign rfl rfl) ?_
              refine x_next ⟨.inr (by kernel_rfl), ?_⟩
              refine x_done (by kernel_rfl) ?_
              exact ⟨_, rfl, b10, r41, rfl, rfl, rfl, rfl, rfl, rfl, rfl, cx, hr41, hQ⟩
            refine s_storeAllG cx 0 rfl rfl rfl rfl rfl rfl (by rw [hr41.len]; exact sz33) (by rw [hr41.len]; rfl) hr41.one ?_; intro w cx hg7
            replace cx := cx.set0
            replace hQ := hQ.mv (fzSetC cx hg7)
            replace hr41 := (fzSetC cx hg7).rep hr41
            refine x_next ⟨.inr (by kernel_rfl), ?_⟩
            refine x_two (i := 7) (j := 10) (by kernel_rfl) rfl rfl ?_ ?_
            · skip
              refine s_val rfl rfl (v_extract rfl rfl rfl) ?_
              refine x_next ⟨.inr (by kernel_rfl), ?_⟩
              refine x_one (i := 10) (by kernel_rfl) rfl ?_
              refine s_val rfl rfl (v_assign rfl rfl) ?_
              refine x_next ⟨.inr (by kernel_rfl), ?_⟩
              refine x_one (i := 11) (by kernel_rfl) rfl ?_
              refine s_val rfl rfl (v_assign rfl rfl) ?_
              refine x_next ⟨.inr (by kernel_rfl), ?_⟩
              refine x_done (by kernel_rfl) ?_
              exact ⟨_, rfl, b10, r41, rfl, rfl, rfl, rfl, rfl, rfl, rfl, cx, hr41, hQ⟩
            refine s_val rfl rfl (v_assign rfl rfl) ?_
            refine x_next ⟨.inr (by kernel_rfl), ?_⟩
            refine x_one (i := 7) (by kernel_rfl) rfl ?_
            refine s_val rfl rfl (v_extract rfl rfl rfl) ?_
            refine x_next ⟨.inr (by kernel_rfl), ?_⟩
            refine x_one (i := 11) (by kernel_rfl) rfl ?_
            refine s_val rfl rfl (v_assign rfl rfl) ?_
            refine x_next ⟨.inr (by kernel_rfl), ?_⟩
            refine x_done (by kernel_rfl) ?_
            exact ⟨_, rfl, b10, r41, rfl, rfl, rfl, rfl, rfl, rfl, rfl, cx, hr41, hQ⟩
          · skip
            refine s_val rfl rfl (v_extract rfl rfl rfl) ?_
            refine x_next ⟨.inr (by kernel_rfl), ?_⟩
            refine x_two (i := 6) (j := 9) (by kernel_rfl) rfl rfl ?_ ?_
            · skip
              refine s_val rfl rfl (v_extract rfl rfl rfl) ?_
              refine x_next ⟨.inr (by kernel_rfl), ?_⟩
              refine x_one (i := 9) (by kernel_rfl) rfl ?_
              refine s_storeAllG cx 0 rfl rfl rfl rfl rfl rfl (by rw [hr41.len]; exact sz33) (by rw [hr41.len]; rfl) hr41.one ?_; intro w cx hg7
              replace cx := cx.set0
              replace hQ := hQ.mv (fzSetC cx hg7)
              replace hr41 := (fzSetC cx hg7).rep hr41
              refine x_next ⟨.inr (by kernel_rfl), ?_⟩
              refine x_one (i := 10) (by kernel_rfl) rfl ?_
              refine s_val rfl rfl (v_assign rfl rfl) ?_
              refine x_next ⟨.inr (by kernel_rfl), ?_⟩
              refine x_one (i := 11) (by kernel_rfl) rfl ?_
              refine s_val rfl rfl (v_assign rfl rfl) ?_
              refine x_next ⟨.inr (by kernel_rfl), ?_⟩
              refine x_done (by kernel_rfl) ?_
              exact ⟨_, rfl, b10, r41, rfl, rfl, rfl, rfl, rfl, rfl, rfl, cx, hr41, hQ⟩
            refine s_storeAllG cx 0 rfl rfl rfl rfl rfl rfl (by rw [hr41.len]; exact sz33) (by rw [hr41.len]; rfl) hr41.one ?_; intro w cx hg7
            replace cx := cx.set0
            replace hQ := hQ.mv (fzSetC cx hg7)
            replace hr41 := (fzSetC cx hg7).rep hr41
            refine x_next ⟨.inr (by kernel_rfl), ?_⟩
            refine x_one (i := 6) (by kernel_rfl) rfl ?_
            refine s_val rfl rfl (v_extract rfl rfl rfl) ?_
            refine x_next ⟨.inr (by kernel_rfl), ?_⟩
            refine x_one (i := 10) (by kernel_rfl) rfl ?_
            refine s_val rfl rfl (v_assign rfl rfl) ?_
            refine x_next ⟨.inr (by kernel_rfl), ?_⟩
            refine x_one (i := 11) (by kernel_rfl) rfl ?_
            refine s_val rfl rfl (v_assign rfl rfl) ?_
            refine x_next ⟨.inr (by kernel_rfl), ?_⟩
            refine x_done (by kernel_rfl) ?_
            exact ⟨_, rfl, b10, r41, rfl, rfl, rfl, rfl, rfl, rfl, rfl, cx, hr41, hQ⟩
          refine s_storeAllG cx 0 rfl rfl rfl rfl rfl rfl (by rw [hr41.len]; exact sz33) (by rw [hr41.len]; rfl) hr41.one ?_; intro w cx hg7
          replace cx := cx.set0
          replace hQ := hQ.mv (fzSetC cx hg7)
          replace hr41 := (fzSetC cx hg7).rep hr41
          refine x_next ⟨.inr (by kernel_rfl), ?_⟩
          refine x_two (i := 6) (j := 7) (by kernel_rfl) rfl rfl ?_ ?_
          · skip
            refine s_val rfl rfl (v_extract rfl rfl rfl) ?_
            refine x_next ⟨.inr (by kernel_rfl), ?_⟩
            refine x_two (i := 7) (j := 10) (by kernel_rfl) rfl rfl ?_ ?_
            · skip
              refine s_val rfl rfl (v_extract rfl rfl rfl) ?_
              refine x_next ⟨.inr (by kernel_rfl), ?_⟩
              refine x_one (i := 10) (by kernel_rfl) rfl ?_
              refine s_val rfl rfl (v_assign rfl rfl) ?_
              refine x_next ⟨.inr (by kernel_rfl), ?_⟩
              refine x_one (i := 11) (by kernel_rfl) rfl ?_
              refine s_val rfl rfl (v_assign rfl rfl) ?_
              refine x_next ⟨.inr (by kernel_rfl), ?_⟩
              refine x_done (by kernel_rfl) ?_
              exact ⟨_, rfl, b10, r41, rfl, rfl, rfl, rfl, rfl, rfl, rfl, cx, hr41, hQ⟩
            refine s_val rfl rfl (v_assign rfl rfl) ?_
            refine x_next ⟨.inr (by kernel_rfl), ?_⟩
            refine x_one (i := 7) (by kernel_rfl) rfl ?_
            refine s_val rfl rfl (v_extract rfl rfl rfl) ?_
            refine x_next ⟨.inr (by kernel_rfl), ?_⟩
            refine x_one (i := 11) (by kernel_rfl) rfl ?_
            refine s_val rfl rfl (v_assign rfl rfl) ?_
            refine x_next ⟨.inr (by kernel_rfl), ?_⟩
            refine x_done (by kernel_rfl) ?_
            exact ⟨_, rfl, b10, r41, rfl, rfl, rfl, rfl, rfl, rfl, rfl, cx, hr41, hQ⟩
          refine s_val rfl rfl (v_extract rfl rfl rfl) ?_
          refine x_next ⟨.inr (by kernel_rfl), ?_⟩
          refine x_one (i := 6) (by kernel_rfl) rfl ?_
          refine s_val rfl rfl (v_extract rfl rfl rfl) ?_
          refine x_next ⟨.inr (by kernel_rfl), ?_⟩
          refine x_one (i := 10) (by kernel_rfl) rfl ?_
          refine s_val rfl rfl (v_assign rfl rfl) ?_
          refine x_next ⟨.inr (by kernel_rfl), ?_⟩
          refine x_one (i := 11) (by kernel_rfl) rfl ?_
          refine s_val rfl rfl (v_assign rfl rfl) ?_
          refine x_next ⟨.inr (by kernel_rfl), ?_⟩
          refine x_done (by kernel_rfl) ?_
          exact ⟨_, rfl, b10, r41, rfl, rfl, rfl, rfl, rfl, rfl, rfl, cx, hr41, hQ⟩
        · skip
          refine s_val rfl rfl (v_extract rfl rfl rfl) ?_
          refine x_next ⟨.inr (by kernel_rfl), ?_⟩
          refine x_two (i := 5) (j := 7) (by kernel_rfl) rfl rfl ?_ ?_
          · skip
            refine s_val rfl rfl (v_extract rfl rfl rfl) ?_
            refine x_next ⟨.inr (by kernel_rfl), ?_⟩
            refine x_two (i := 7) (j := 9) (by kernel_rfl) rfl rfl ?_ ?_
            · skip
              refine s_val rfl rfl (v_extract rfl rfl rfl) ?_
              refine x_next ⟨.inr (by kernel_rfl), ?_⟩
              refine x_one (i := 9) (by kernel_rfl) rfl ?_
              refine s_storeAllG cx 0 rfl rfl rfl rfl rfl rfl (by rw [hr41.len]; exact sz33) (by rw [hr41.len]; rfl) hr41.one ?_; intro w cx hg7
              replace cx := cx.set0
              replace hQ := hQ.mv (fzSetC cx hg7)
              replace hr41 := (fzSetC cx hg7).rep hr41
              refine x_next ⟨.inr (by kernel_rfl), ?_⟩
              refine x_one (i := 10) (by kernel_rfl) rfl ?_
              refine s_val rfl rfl (v_assign rfl rfl) ?_
              refine x_next ⟨.inr (by kernel_rfl), ?_⟩
              refine x_one (i := 11) (by kernel_rfl) rfl ?_
              refine s_val rfl rfl (v_assign rfl rfl) ?_
              refine x_next ⟨.inr (by kernel_rfl), ?_⟩
              refine x_done (by kernel_rfl) ?_
              exact ⟨_, rfl, b10, r41, rfl, rfl, rfl, rfl, rfl, rfl, rfl, cx, hr41, hQ⟩
            refine s_storeAllG cx 0 rfl rfl rfl rfl rfl rfl (by rw [hr41.len]; exact sz33) (by rw [hr41.len]; rfl) hr41.one ?_; intro w cx hg7
            replace cx := cx.set0
            replace hQ := hQ.mv (fzSetC cx hg7)
            replace hr41 := (fzSetC cx hg7).rep hr41
            refine x_next ⟨.inr (by kernel_rfl), ?_⟩
            refine x_two (i := 7) (j := 10) (by kernel_rfl) rfl rfl ?_ ?_
            · skip
              refine s_val rfl rfl (v_extract rfl rfl rfl) ?_
              refine x_next ⟨.inr (by kernel_rfl), ?_⟩
              refine x_one (i := 10) (by kernel_rfl) rfl ?_
              refine s_val rfl rfl (v_assign rfl rfl) ?_
              refine x_next ⟨.inr (by kernel_rfl), ?_⟩
              refine x_one (i := 11) (by kernel_rfl) rfl ?_
              refine s_val rfl rfl (v_assign rfl rfl) ?_
              refine x_next ⟨.inr (by kernel_rfl), ?_⟩
              refine x_done (by kernel_rfl) ?_
              exact ⟨_, rfl, b10, r41, rfl, rfl, rfl, rfl, rfl, rfl, rfl, cx, hr41, hQ⟩
            refine s_val rfl rfl (v_assign rfl rfl) ?_
            refine x_next ⟨.inr (by kernel_rfl), ?_⟩
            refine x_one (i := 7) (by kernel_rfl) rfl ?_
            refine s_val rfl rfl (v_extract rfl rfl rfl) ?_
            refine x_next ⟨.inr (by kernel_rfl), ?_⟩
            refine x_one (i := 11) (by kernel_rfl) rfl ?_
            refine s_val rfl rfl (v_assign rfl rfl) ?_
            refine x_next ⟨.inr (by kernel_rfl), ?_⟩
            refine x_done (by kernel_rfl) ?_
            exact ⟨_, rfl, b10, r41, rfl, rfl, rfl, rfl, rfl, rfl, rfl, cx, hr41, hQ⟩
          refine s_val rfl rfl (v_extract rfl rfl rfl) ?_
          refine x_next ⟨.inr (by kernel_rfl), ?_⟩
          refine x_one (i := 5) (by kernel_rfl) rfl ?_
          refine s_val rfl rfl (v_extract rfl rfl rfl) ?_
          refine x_next ⟨.inr (by kernel_rfl), ?_⟩
          refine x_one (i := 9) (by kernel_rfl) rfl ?_
          refine s_storeAllG cx 0 rfl rfl rfl rfl rfl rfl (by rw [hr41.len]; exact sz33) (by rw [hr41.len]; rfl) hr41.one ?_; intro w cx hg7
          replace cx := cx.set0
          replace hQ := hQ.mv (fzSetC cx hg7)
          replace hr41 := (fzSetC cx hg7).rep hr41
          refine x_next ⟨.inr (by kernel_rfl), ?_⟩
          refine x_one (i := 10) (by kernel_rfl) rfl ?_
          refine s_val rfl rfl (v_assign rfl rfl) ?_
          refine x_next ⟨.inr (by kernel_rfl), ?_⟩
          refine x_one (i := 11) (by kernel_rfl) rfl ?_
          refine s_val rfl rfl (v_assign rfl rfl) ?_
          refine x_next ⟨.inr (by kernel_rfl), ?_⟩
          refine x_done (by kernel_rfl) ?_
          exact ⟨_, rfl, b10, r41, rfl, rfl, rfl, rfl, rfl, rfl, rfl, cx, hr41, hQ⟩
        refine s_val rfl rfl (v_extract rfl rfl rfl) ?_
        refine x_next ⟨.inr (by kernel_rfl), ?_⟩
        refine x_two (i := 5) (j := 6) (by kernel_rfl) rfl rfl ?_ ?_
        · skip
          refine s_val rfl rfl (v_extract rfl rfl rfl) ?_
          refine x_next ⟨.inr (by kernel_rfl), ?_⟩
          refine x_two (i := 6) (j := 9) (by kernel_rfl) rfl rfl ?_ ?_
          · skip
            refine s_val rfl rfl (v_extract rfl rfl rfl) ?_
            refine x_next ⟨.inr (by kernel_rfl), ?_⟩
            refine x_one (i := 9) (by kernel_rfl) rfl ?_
            refine s_storeAllG cx 0 rfl rfl rfl rfl rfl rfl (by rw [hr41.len]; exact sz33) (by rw [hr41.len]; rfl) hr41.one ?_; intro w cx hg7
            replace cx := cx.set0
            replace hQ := hQ.mv (fzSetC cx hg7)
            replace hr41 := (fzSetC cx hg7).rep hr41
            refine x_next ⟨.inr (by kernel_rfl), ?_⟩
            refine x_one (i := 10) (by kernel_rfl) rfl ?_
            refine s_val rfl rfl (v_assign rfl rfl) ?_
            refine x_next ⟨.inr (by kernel_rfl), ?_⟩
            refine x_one (i := 11) (by kernel_rfl) rfl ?_
            refine s_val rfl rfl (v_assign rfl rfl) ?_
            refine x_next ⟨.inr (by kernel_rfl), ?_⟩
            refine x_done (by kernel_rfl) ?_
            exact ⟨_, rfl, b10, r41, rfl, rfl, rfl, rfl, rfl, rfl, rfl, cx, hr41, hQ⟩
          refine s_storeAllG cx 0 rfl rfl rfl rfl rfl rfl (by rw [hr41.len]; exact sz33) (by rw [hr41.len]; rfl) hr41.one ?_; intro w cx hg7
          replace cx := cx.set0
          replace hQ := hQ.mv (fzSetC cx hg7)
          replace hr41 := (fzSetC cx hg7).rep hr41
          refine x_next ⟨.inr (by kernel_rfl), ?_⟩
          refine x_one (i := 6) (by kernel_rfl) rfl ?_
          refine s_val rfl rfl (v_extract rfl rfl rfl) ?_
          refine x_next ⟨.inr (by kernel_rfl), ?_⟩
          refine x_one (i := 10) (by kernel_rfl) rfl ?_
          refine s_val rfl rfl (v_assign rfl rfl) ?_
          refine x_next ⟨.inr (by kernel_rfl), ?_⟩
          refine x_one (i := 11) (by kernel_rfl) rfl ?_
          refine s_val rfl rfl (v_assign rfl rfl) ?_
          refine x_next ⟨.inr (by kernel_rfl), ?_⟩
          refine x_done (by kernel_rfl) ?_
          exact ⟨_, rfl, b10, r41, rfl, rfl, rfl, rfl, rfl, rfl, rfl, cx, hr41, hQ⟩
        refine s_val rfl rfl (v_extract rfl rfl rfl) ?_
        refine x_next ⟨.inr (by kernel_rfl), ?_⟩
        refine x_one (i := 5) (by kernel_rfl) rfl ?_
        refine s_val rfl rfl (v_extract rfl rfl rfl) ?_
        refine x_next ⟨.inr (by kernel_rfl), ?_⟩
        refine x_one (i := 9) (by kernel_rfl) rfl ?_
        refine s_storeAllG cx 0 rfl rfl rfl rfl rfl rfl (by rw [hr41.len]; exact sz33) (by rw [hr41.len]; rfl) hr41.one ?_; intro w cx hg7
        replace cx := cx.set0
        replace hQ := hQ.mv (fzSetC cx hg7)
        replace hr41 := (fzSetC cx hg7).rep hr41
        refine x_next ⟨.inr (by kernel_rfl), ?_⟩
        refine x_one (i := 10) (by kernel_rfl) rfl ?_
        refine s_val rfl rfl (v_assign rfl rfl) ?_
        refine x_next ⟨.inr (by kernel_rfl), ?_⟩
        refine x_one (i := 11) (by kernel_rfl) rfl ?_
        refine s_val rfl rfl (v_assign rfl rfl) ?_
        refine x_next ⟨.inr (by kernel_rfl), ?_⟩
        refine x_done (by kernel_rfl) ?_
        exact ⟨_, rfl, b10, r41, rfl, rfl, rfl, rfl, rfl, rfl, rfl, cx, hr41, hQ⟩
      refine s_alloc cx z33 rfl rfl rfl ?_; intro b10 w cx hb10 hw10
      replace hQ := hQ.mv (Fz.newC cx hb10 hw10)
      try replace hs2 := (Fz.newC cx hb10 hw10).chsF hs2
      try replace hr41 := (Fz.newC cx hb10 hw10).rep hr41
      refine x_next ⟨.inl (cx.pick1 1 rfl), ?_⟩
      refine x_one (i := 3) (by kernel_rfl) rfl ?_
      have cxp := cx
      refine s_fn cx (c44 ((B.map invC).reverse) z av _ _ _ _ F.lt hbk hcg2 hBl hgz hQ.r hs2) Try.func44 rfl rfl rfl rfl rfl rfl ?_; intro q41 w cx hw41 hp41
      obtain ⟨r41, rfl, hr41⟩ := hp41
      replace hr41 := fResV cxp hw41 hr41
      replace hQ := hQ.mv (Fz.belC cx hw41)
      refine x_next ⟨.inr (by kernel_rfl), ?_⟩
      refine x_one (i := 4) (by kernel_rfl) rfl ?_
      refine s_val rfl rfl (v_move rfl rfl) ?_
      refine x_next ⟨.inr (by kernel_rfl), ?_⟩
      refine x_three (i := 5) (j := 6) (m := 7) (by kernel_rfl) rfl rfl rfl ?_ ?_ ?_
      · skip
        refine s_val rfl rfl (v_extract rfl rfl rfl) ?_
        refine x_next ⟨.inr (by kernel_rfl), ?_⟩
        refine x_three (i := 6) (j := 7) (m := 9) (by kernel_rfl) rfl rfl rfl ?_ ?_ ?_
        · skip
          refine s_val rfl rfl (v_extract rfl rfl rfl) ?_
          refine x_next ⟨.inr (by kernel_rfl), ?_⟩
          refine x_two (i := 7) (j := 9) (by kernel_rfl) rfl rfl ?_ ?_
          · skip
            refine s_val rfl rfl (v_extract rfl rfl rfl) ?_
            refine x_next ⟨.inr (by kernel_rfl), ?_⟩
            refine x_one (i := 9) (by kernel_rfl) rfl ?_
            refine s_storeAllG cx 0 rfl rfl rfl rfl rfl rfl (by rw [hr41.len]; exact sz33) (by rw [hr41.len]; rfl) hr41.one ?_; intro w cx hg7
            replace cx := cx.set0
            replace hQ := hQ.mv (fzSetC cx hg7)
            replace hr41 := (fzSetC cx hg7).rep hr41
            refine x_next ⟨.inr (by kernel_rfl), ?_⟩
            refine x_one (i := 10) (by kernel_rfl) rfl ?_
            refine s_val rfl rfl (v_assign rfl rfl) ?_
            refine x_next ⟨.inr (by kernel_rfl), ?_⟩
            refine x_one (i := 11) (by kernel_rfl) rfl ?_
            refine s_val rfl rfl (v_assign rfl rfl) ?_
            refine x_next ⟨.inr (by kernel_rfl), ?_⟩
            refine x_done (by kernel_rfl) ?_
            exact ⟨_, rfl, b10, r41, rfl, rfl, rfl, rfl, rfl, rfl, rfl, cx, hr41, hQ⟩
          refine s_storeAllG cx 0 rfl rfl rfl rfl rfl rfl (by rw [hr41.len]; exact sz33) (by rw [hr41.len]; rfl) hr41.one ?_; intro w cx hg7
          replace cx := cx.set0
          replace hQ := hQ.mv (fzSetC cx hg7)
          replace hr41 := (fzSetC cx hg7).rep hr41
          refine x_next ⟨.inr (by kernel_rfl), ?_⟩
          refine x_two (i := 7) (j := 10) (by kernel_rfl) rfl rfl ?_ ?_
          · skip
            refine s_val rfl rfl (v_extract rfl rfl rfl) ?_
            refine x_next ⟨.inr (by kernel_rfl), ?_⟩
            refine x_one (i := 10) (by kernel_rfl) rfl ?_
            refine s_val rfl rfl (v_assign rfl rfl) ?_
            refine x_next ⟨.inr (by kernel_rfl), ?_⟩
            refine x_one (i := 11) (by kernel_rfl) rfl ?_
            refine s_val rfl rfl (v_assign rfl rfl) ?_
            refine x_next ⟨.inr (by kernel_rfl), ?_⟩
            refine x_done (by kernel_rfl) ?_
            exact ⟨_, rfl, b10, r41, rfl, rfl, rfl, rfl, rfl, rfl, rfl, cx, hr41, hQ⟩
          refine s_val rfl rfl (v_assign rfl rfl) ?_
          refine x_next ⟨.inr (by kernel_rfl), ?_⟩
          refine x_one (i := 7) (by kernel_rfl) rfl ?_
          refine s_val rfl rfl (v_extract rfl rfl rfl) ?_
          refine x_next ⟨.inr (by kernel_rfl), ?_⟩
          refine x_one (i := 11) (by kernel_rfl) rfl ?_
          refine s_val rfl rfl (v_assign rfl rfl) ?_
          refine x_next ⟨.inr (by kernel_rfl), ?_⟩
          refine x_done (by kernel_rfl) ?_
          exact ⟨_, rfl, b10, r41, rfl, rfl, rfl, rfl, rfl, rfl, rfl, cx, hr41, hQ⟩
        · skip
          refine s_val rfl rfl (v_extract rfl rfl rfl) ?_
          refine x_next ⟨.inr (by kernel_rfl), ?_⟩
          refine x_two (i := 6) (j := 9) (by kernel_rfl) rfl rfl ?_ ?_
          · skip
            refine s_val rfl rfl (v_extract rfl rfl rfl) ?_
            refine x_next ⟨.inr (by kernel_rfl), ?_⟩
            refine x_one (i := 9) (by kernel_rfl) rfl ?_
            refine s_storeAllG cx 0 rfl rfl rfl rfl rfl rfl (by rw [hr41.len]; exact sz33) (by rw [hr41.len]; rfl) hr41.one ?_; intro w cx hg7
            replace cx := cx.set0
            replace hQ := hQ.mv (fzSetC cx hg7)
            replace hr41 := (fzSetC cx hg7).rep hr41
            refine x_next ⟨.inr (by kernel_rfl), ?_⟩
            refine x_one (i := 10) (by kernel_rfl) rfl ?_
            refine s_val rfl rfl (v_assign rfl rfl) ?_
            refine x_next ⟨.inr (by kernel_rfl), ?_⟩
            refine x_one (i := 11) (by kernel_rfl) rfl ?_
            refine s_val rfl rfl (v_assign rfl rfl) ?_
            refine x_next ⟨.inr (by kernel_rfl), ?_⟩
            refine x_done (by kernel_rfl) ?_
            exact ⟨_, rfl, b10, r41, rfl, rfl, rfl, rfl, rfl, rfl, rfl, cx, hr41, hQ⟩
          refine s_storeAllG cx 0 rfl rfl rfl rfl rfl rfl (by rw [hr41.len]; exact sz33) (by rw [hr41.len]; rfl) hr41.one ?_; intro w cx hg7
          replace cx := cx.set0
          replace hQ := hQ.mv (fzSetC cx hg7)
          replace hr41 := (fzSetC cx hg7).rep hr41
          refine x_next ⟨.inr (by kernel_rfl), ?_⟩
          refine x_one (i := 6) (by kernel_rfl) rfl ?_
          refine s_val rfl rfl (v_extract rfl rfl rfl) ?_
          refine x_next ⟨.inr (by kernel_rfl), ?_⟩
          refine x_one (i := 10) (by kernel_rfl) rfl ?_
          refine s_val rfl rfl (v_assign rfl rfl) ?_
          refine x_next ⟨.inr (by kernel_rfl), ?_⟩
          refine x_one (i := 11) (by kernel_rfl) rfl ?_
          refine s_val rfl rfl (v_assign rfl rfl) ?_
          refine x_next ⟨.inr (by kernel_rfl), ?_⟩
          refine x_done (by kernel_rfl) ?_
          exact ⟨_, rfl, b10, r41, rfl, rfl, rfl, rfl, rfl, rfl, rfl, cx, hr41, hQ⟩
        refine s_storeAllG cx 0 rfl rfl rfl rfl rfl rfl (by rw [hr41.len]; exact sz33) (by rw [hr41.len]; rfl) hr41.one ?_; intro w cx hg7
        replace cx := cx.set0
        replace hQ := hQ.mv (fzSetC cx hg7)
        replace hr41 := (fzSetC cx hg7).rep hr41
        refine x_next ⟨.inr (by kernel_rfl), ?_⟩
        refine x_two (i := 6) (j := 7) (by kernel_rfl) rfl rfl ?_ ?_
        · skip
          refine s_val rfl rfl (v_extract rfl rfl rfl) ?_
          refine x_next ⟨.inr (by kernel_rfl), ?_⟩
          refine x_two (i := 7) (j := 10) (by kernel_rfl) rfl rfl ?_ ?_
          · skip
            refine s_val rfl rfl (v_extract rfl rfl rfl) ?_
            refine x_next ⟨.inr (by kernel_rfl), ?_⟩
            refine x_one (i := 10) (by kernel_rfl) rfl ?_
            refine s_val rfl rfl (v_assign rfl rfl) ?_
            refine x_next ⟨.inr (by kernel_rfl), ?_⟩
            refine x_one (i := 11) (by kernel_rfl) rfl ?_
            refine s_val rfl rfl (v_assign rfl rfl) ?_
            refine x_next ⟨.inr (by kernel_rfl), ?_⟩
            refine x_done (by kernel_rfl) ?_
            exact ⟨_, rfl, b10, r41, rfl, rfl, rfl, rfl, rfl, rfl, rfl, cx, hr41, hQ⟩
          refine s_val rfl rfl (v_assign rfl rfl) ?_
          refine x_next ⟨.inr (by kernel_rfl), ?_⟩
          refine x_one (i := 7) (by kernel_rfl) rfl ?_
          refine s_val rfl rfl (v_extract rfl rfl rfl) ?_
          refine x_next ⟨.inr (by kernel_rfl), ?_⟩
          refine x_one (i := 11) (by kernel_rfl) rfl ?_
          refine s_val rfl rfl (v_assign rfl rfl) ?_
          refine x_next ⟨.inr (by kernel_rfl), ?_⟩
          refine x_done (by kernel_rfl) ?_
          exact ⟨_, rfl, b10, r41, rfl, rfl, rfl, rfl, rfl, rfl, rfl, cx, hr41, hQ⟩
        refine s_val rfl rfl (v_extract rfl rfl rfl) ?_
        refine x_next ⟨.inr (by kernel_rfl), ?_⟩
        refine x_one (i := 6) (by kernel_rfl) rfl ?_
        refine s_val rfl rfl (v_extract rfl rfl rfl) ?_
        refine x_next ⟨.inr (by kernel_rfl), ?_⟩
        refine x_one (i := 10) (by kernel_rfl) rfl ?_
        refine s_val rfl rfl (v_assign rfl rfl) ?_
        refine x_next ⟨.inr (by kernel_rfl), ?_⟩
        refine x_one (i := 11) (by kernel_rfl) rfl ?_
        refine s_val rfl rfl (v_assign rfl rfl) ?_
        refine x_next ⟨.inr (by kernel_rfl), ?_⟩
        refine x_done (by kernel_rfl) ?_
        exact ⟨_, rfl, b10, r41, rfl, rfl, rfl, rfl, rfl, rfl, rfl, cx, hr41, hQ⟩
      · skip
        refine s_val rfl rfl (v_extract rfl rfl rfl) ?_
        refine x_next ⟨.inr (by kernel_rfl), ?_⟩
        refine x_two (i := 5) (j := 7) (by kernel_rfl) rfl rfl ?_ ?_
        · skip
          refine s_val rfl rfl (v_extract rfl rfl rfl) ?_
          refine x_next ⟨.inr (by kernel_rfl), ?_⟩
          refine x_two (i := 7) (j := 9) (by kernel_rfl) rfl rfl ?_ ?_
          · skip
            refine s_val rfl rfl (v_extract rfl rfl rfl) ?_
            refine x_next ⟨.inr (by kernel_rfl), ?_⟩
            refine x_one (i := 9) (by kernel_rfl) rfl ?_
            refine s_storeAllG cx 0 rfl rfl rfl rfl rfl rfl (by rw [hr41.len]; exact sz33) (by rw [hr41.len]; rfl) hr41.one ?_; intro w cx hg7
            replace cx := cx.set0
            replace hQ := hQ.mv (fzSetC cx hg7)
            replace hr41 := (fzSetC cx hg7).rep hr41
            refine x_next ⟨.inr (by kernel_rfl), ?_⟩
            refine x_one (i := 10) (by kernel_rfl) rfl ?_
            refine s_val rfl rfl (v_assign rfl rfl) ?_
            refine x_next ⟨.inr (by kernel_rfl), ?_⟩
            refine x_one (i := 11) (by kernel_rfl) rfl ?_
            refine s_val rfl rfl (v_assign rfl rfl) ?_
            refine x_next ⟨.inr (by kernel_rfl), ?_⟩
            refine x_done (by kernel_rfl) ?_
            exact ⟨_, rfl, b10, r41, rfl, rfl, rfl, rfl, rfl, rfl, rfl, cx, hr41, hQ⟩
          refine s_storeAllG cx 0 rfl rfl rfl rfl rfl rfl (by rw [hr41.len]; exact sz33) (by rw [hr41.len]; rfl) hr41.one ?_; intro w cx hg7
          replace cx := cx.set0
          replace hQ := hQ.mv (fzSetC cx hg7)
          replace hr41 := (fzSetC cx hg7).rep hr41
          refine x_next ⟨.inr (by kernel_rfl), ?_⟩
          refine x_two (i := 7) (j := 10) (by kernel_rfl) rfl rfl ?_ ?_
          · skip
            refine s_val rfl rfl (v_extract rfl rfl rfl) ?_
            refine x_next ⟨.inr (by kernel_rfl), ?_⟩
            refine x_one (i := 10) (by kernel_rfl) rfl ?_
            refine s_val rfl rfl (v_assign rfl rfl) ?_
            refine x_next ⟨.inr (by kernel_rfl), ?_⟩
            refine x_one (i := 11) (by kernel_rfl) rfl ?_
            refine s_val rfl rfl (v_assign rfl rfl) ?_
            refine x_next ⟨.inr (by kernel_rfl), ?_⟩
            refine x_done (by kernel_rfl) ?_
            exact ⟨_, rfl, b10, r41, rfl, rfl, rfl, rfl, rfl, rfl, rfl, cx, hr41, hQ⟩
          refine s_val rfl rfl (v_assign rfl rfl) ?_
          refine x_next ⟨.inr (by kernel_rfl), ?_⟩
          refine x_one (i := 7) (by kernel_rfl) rfl ?_
          refine s_val rfl rfl (v_extract rfl rfl rfl) ?_
          refine x_next ⟨.inr (by kernel_rfl), ?_⟩
          refine x_one (i := 11) (by kernel_rfl) rfl ?_
          refine s_val rfl rfl (v_assign rfl rfl) ?_
          refine x_next ⟨.inr (by kernel_rfl), ?_⟩
          refine x_done (by kernel_rfl) ?_
          exact ⟨_, rfl, b10, r41, rfl, rfl, rfl, rfl, rfl, rfl, rfl, cx, hr41, hQ⟩
        refine s_val rfl rfl (v_extract rfl rfl rfl) ?_
        refine x_next ⟨.inr (by kernel_rfl), ?_⟩
        refine x_one (i := 5) (by kernel_rfl) rfl ?_
        refine s_val rfl rfl (v_extract rfl rfl rfl) ?_
        refine x_next ⟨.inr (by kernel_rfl), ?_⟩
        refine x_one (i := 9) (by kernel_rfl) rfl ?_
        refine s_storeAllG cx 0 rfl rfl rfl rfl rfl rfl (by rw [hr41.len]; exact sz33) (by rw [hr41.len]; rfl) hr41.one ?_; intro w cx hg7
        replace cx := cx.set0
        replace hQ := hQ.mv (fzSetC cx hg7)
        replace hr41 := (fzSetC cx hg7).rep hr41
        refine x_next ⟨.inr (by kernel_rfl), ?_⟩
        refine x_one (i := 10) (by kernel_rfl) rfl ?_
        refine s_val rfl rfl (v_assign rfl rfl) ?_
        refine x_next ⟨.inr (by kernel_rfl), ?_⟩
        refine x_one (i := 11) (by kernel_rfl) rfl ?_
        refine s_val rfl rfl (v_assign rfl rfl) ?_
        refine x_next ⟨.inr (by kernel_rfl), ?_⟩
        refine x_done (by kernel_rfl) ?_
        exact ⟨_, rfl, b10, r41, rfl, rfl, rfl, rfl, rfl, rfl, rfl, cx, hr41, hQ⟩
      refine s_val rfl rfl (v_extract rfl rfl rfl) ?_
      refine x_next ⟨.inr (by kernel_rfl), ?_⟩
      refine x_two (i := 5) (j := 6) (by kernel_rfl) rfl rfl ?_ ?_
      · skip
        refine s_val rfl rfl (v_extract rfl rfl rfl) ?_
        refine x_next ⟨.inr (by kernel_rfl), ?_⟩
        refine x_two (i := 6) (j := 9) (by kernel_rfl) rfl rfl ?_ ?_
        · skip
          refine s_val rfl rfl (v_extract rfl rfl rfl) ?_
          refine x_next ⟨.inr (by kernel_rfl), ?_⟩
          refine x_one (i := 9) (by kernel_rfl) rfl ?_
          refine s_storeAllG cx 0 rfl rfl rfl rfl rfl rfl (by rw [hr41.len]; exact sz33) (by rw [hr41.len]; rfl) hr41.one ?_; intro w cx hg7
          replace cx := cx.set0
          replace hQ := hQ.mv (fzSetC cx hg7)
          replace hr41 := (fzSetC cx hg7).rep hr41
          refine x_next ⟨.inr (by kernel_rfl), ?_⟩
          refine x_one (i := 10) (by kernel_rfl) rfl ?_
          refine s_val rfl rfl (v_assign rfl rfl) ?_
          refine x_next ⟨.inr (by kernel_rfl), ?_⟩
          refine x_one (i := 11) (by kernel_rfl) rfl ?_
          refine s_val rfl rfl (v_assign rfl rfl) ?_
          refine x_next ⟨.inr (by kernel_rfl), ?_⟩
          refine x_done (by kernel_rfl) ?_
          exact ⟨_, rfl, b10, r41, rfl, rfl, rfl, rfl, rfl, rfl, rfl, cx, hr41, hQ⟩
        refine s_storeAllG cx 0 rfl rfl rfl rfl rfl rfl (by rw [hr41.len]; exact sz33) (by rw [hr41.len]; rfl) hr41.one ?_; intro w cx hg7
        replace cx := cx.set0
        replace hQ := hQ.mv (fzSetC cx hg7)
        replace hr41 := (fzSetC cx hg7).rep hr41
        refine x_next ⟨.inr (by kernel_rfl), ?_⟩
        refine x_one (i := 6) (by kernel_rfl) rfl ?_
        refine s_val rfl rfl (v_extract rfl rfl rfl) ?_
        refine x_next ⟨.inr (by kernel_rfl), ?_⟩
        refine x_one (i := 10) (by kernel_rfl) rfl ?_
        refine s_val rfl rfl (v_assign rfl rfl) ?_
        refine x_next ⟨.inr (by kernel_rfl), ?_⟩
        refine x_one (i := 11) (by kernel_rfl) rfl ?_
        refine s_val rfl rfl (v_assign rfl rfl) ?_
        refine x_next ⟨.inr (by kernel_rfl), ?_⟩
        refine x_done (by kernel_rfl) ?_
        exact ⟨_, rfl, b10, r41, rfl, rfl, rfl, rfl, rfl, rfl, rfl, cx, hr41, hQ⟩
      refine s_val rfl rfl (v_extract rfl rfl rfl) ?_
      refine x_next ⟨.inr (by kernel_rfl), ?_⟩
      refine x_one (i := 5) (by kernel_rfl) rfl ?_
      refine s_val rfl rfl (v_extract rfl rfl rfl) ?_
      refine x_next ⟨.inr (by kernel_rfl), ?_⟩
      refine x_one (i := 9) (by kernel_rfl) rfl ?_
      refine s_storeAllG cx 0 rfl rfl rfl rfl rfl rfl (by rw [hr41.len]; exact sz33) (by rw [hr41.len]; rfl) hr41.one ?_; intro w cx hg7
      replace cx := cx.set0
      replace hQ := hQ.mv (fzSetC cx hg7)
      replace hr41 := (fzSetC cx hg7).rep hr41
      refine x_next ⟨.inr (by kernel_rfl), ?_⟩
      refine x_one (i := 10) (by kernel_rfl) rfl ?_
      refine s_val rfl rfl (v_assign rfl rfl) ?_
      refine x_next ⟨.inr (by kernel_rfl), ?_⟩
      refine x_one (i := 11) (by kernel_rfl) rfl ?_
      refine s_val rfl rfl (v_assign rfl rfl) ?_
      refine x_next ⟨.inr (by kernel_rfl), ?_⟩
      refine x_done (by kernel_rfl) ?_
      exact ⟨_, rfl, b10, r41, rfl, rfl, rfl, rfl, rfl, rfl, rfl, cx, hr41, hQ⟩
    refine s_alloc cx z33 rfl rfl rfl ?_; intro b10 w cx hb10 hw10
    replace hQ := hQ.mv (Fz.newC cx hb10 hw10)
    try replace hs2 := (Fz.newC cx hb10 hw10).chsF hs2
    try replace hr41 := (Fz.newC cx hb10 hw10).rep hr41
    refine x_next ⟨.inl (cx.pick1 1 rfl), ?_⟩
    refine x_one (i := 2) (by kernel_rfl) rfl ?_
    have cxp := cx
    refine s_fn cx (c45 B _ _ _ F.lt hcg (by omega) hQ.c) Try.func45 rfl rfl rfl rfl rfl rfl ?_; intro q40 w cx hw40 hp40
    have hs2 := fResC cxp hw40 hp40
    replace hQ := hQ.mv (Fz.belC cx hw40)
    refine x_next ⟨.inl (cx.pick1 1 rfl), ?_⟩
    refine x_one (i := 3) (by kernel_rfl) rfl ?_
    have cxp := cx
    refine s_fn cx (c44 ((B.map invC).reverse) z av _ _ _ _ F.lt hbk hcg2 hBl hgz hQ.r hs2) Try.func44 rfl rfl rfl rfl rfl rfl ?_; intro q41 w cx hw41 hp41
    obtain ⟨r41, rfl, hr41⟩ := hp41
    replace hr41 := fResV cxp hw41 hr41
    replace hQ := hQ.mv (Fz.belC cx hw41)
    refine x_next ⟨.inr (by kernel_rfl), ?_⟩
    refine x_one (i := 4) (by kernel_rfl) rfl ?_
    refine s_val rfl rfl (v_move rfl rfl) ?_
    refine x_next ⟨.inr (by kernel_rfl), ?_⟩
    refine x_three (i := 5) (j := 6) (m := 7) (by kernel_rfl) rfl rfl rfl ?_ ?_ ?_
    · skip
      refine s_val rfl rfl (v_extract rfl rfl rfl) ?_
      refine x_next ⟨.inr (by kernel_rfl), ?_⟩
      refine x_three (i := 6) (j := 7) (m := 9) (by kernel_rfl) rfl rfl rfl ?_ ?_ ?_
      · skip
        refine s_val rfl rfl (v_extract rfl rfl rfl) ?_
        refine x_next ⟨.inr (by kernel_rfl), ?_⟩
        refine x_two (i := 7) (j := 9) (by kernel_rfl) rfl rfl ?_ ?_
        · skip
          refine s_val rfl rfl (v_extract rfl rfl rfl) ?_
          refine x_next ⟨.inr (by kernel_rfl), ?_⟩
          refine x_one (i := 9) (by kernel_rfl) rfl ?_
          refine s_storeAllG cx 0 rfl rfl rfl rfl rfl rfl (by rw [hr41.len]; exact sz33) (by rw [hr41.len]; rfl) hr41.one ?_; intro w cx hg7
          replace cx := cx.set0
          replace hQ := hQ.mv (fzSetC cx hg7)
          replace hr41 := (fzSetC cx hg7).rep hr41
          refine x_next ⟨.inr (by kernel_rfl), ?_⟩
          refine x_one (i := 10) (by kernel_rfl) rfl ?_
          refine s_val rfl rfl (v_assign rfl rfl) ?_
          refine x_next ⟨.inr (by kernel_rfl), ?_⟩
          refine x_one (i := 11) (by kernel_rfl) rfl ?_
          refine s_val rfl rfl (v_assign rfl rfl) ?_
          refine x_next ⟨.inr (by kernel_rfl), ?_⟩
          refine x_done (by kernel_rfl) ?_
          exact ⟨_, rfl, b10, r41, rfl, rfl, rfl, rfl, rfl, rfl, rfl, cx, hr41, hQ⟩
        refine s_storeAllG cx 0 rfl rfl rfl rfl rfl rfl (by rw [hr41.len]; exact sz33) (by rw [hr41.len]; rfl) hr41.one ?_; intro w cx hg7
        replace cx := cx.set0
        replace hQ := hQ.mv (fzSetC cx hg7)
        replace hr41 := (fzSetC cx hg7).rep hr41
        refine x_next ⟨.inr (by kernel_rfl), ?_⟩
        refine x_two (i := 7) (j := 10) (by kernel_rfl) rfl rfl ?_ ?_
        · skip
          refine s_val rfl rfl (v_extract rfl rfl rfl) ?_
          refine x_next ⟨.inr (by kernel_rfl), ?_⟩
          refine x_one (i := 10) (by kernel_rfl) rfl ?_
          refine s_val rfl rfl (v_assign rfl rfl) ?_
          refine x_next ⟨.inr (by kernel_rfl), ?_⟩
          refine x_one (i := 11) (by kernel_rfl) rfl ?_
          refine s_val rfl rfl (v_assign rfl rfl) ?_
          refine x_next ⟨.inr (by kernel_rfl), ?_⟩
          refine x_done (by kernel_rfl) ?_
          exact ⟨_, rfl, b10, r41, rfl, rfl, rfl, rfl, rfl, rfl, rfl, cx, hr41, hQ⟩
        refine s_val rfl rfl (v_assign rfl rfl) ?_
        refine x_next ⟨.inr (by kernel_rfl), ?_⟩
        refine x_one (i := 7) (by kernel_rfl) rfl ?_
        refine s_val rfl rfl (v_extract rfl rfl rfl) ?_
        refine x_next ⟨.inr (by kernel_rfl), ?_⟩
        refine x_one (i := 11) (by kernel_rfl) rfl ?_
        refine s_val rfl rfl (v_assign rfl rfl) ?_
        refine x_next ⟨.inr (by kernel_rfl), ?_⟩
        refine x_done (by kernel_rfl) ?_
        exact ⟨_, rfl, b10, r41, rfl, rfl, rfl, rfl, rfl, rfl, rfl, cx, hr41, hQ⟩
      · skip
        refine s_val rfl rfl (v_extract rfl rfl rfl) ?_
        refine x_next ⟨.inr (by kernel_rfl), ?_⟩
        refine x_two (i := 6) (j := 9) (by kernel_rfl) rfl rfl ?_ ?_
        · skip
          refine s_val rfl rfl (v_extract rfl rfl rfl) ?_
          refine x_next ⟨.inr (by kernel_rfl), ?_⟩
          refine x_one (i := 9) (by kernel_rfl) rfl ?_
          refine s_storeAllG cx 0 rfl rfl rfl rfl rfl rfl (by rw [hr41.len]; exact sz33) (by rw [hr41.len]; rfl) hr41.one ?_; intro w cx hg7
          replace cx := cx.set0
          replace hQ := hQ.mv (fzSetC cx hg7)
          replace hr41 := (fzSetC cx hg7).rep hr41
          refine x_next ⟨.inr (by kernel_rfl), ?_⟩
          refine x_one (i := 10) (by kernel_rfl) rfl ?_
          refine s_val rfl rfl (v_assign rfl rfl) ?_
          refine x_next ⟨.inr (by kernel_rfl), ?_⟩
          refine x_one (i := 11) (by kernel_rfl) rfl ?_
          refine s_val rfl rfl (v_assign rfl rfl) ?_
          refine x_next ⟨.inr (by kernel_rfl), ?_⟩
          refine x_done (by kernel_rfl) ?_
          exact ⟨_, rfl, b10, r41, rfl, rfl, rfl, rfl, rfl, rfl, rfl, cx, hr41, hQ⟩
        refine s_storeAllG cx 0 rfl rfl rfl rfl rfl rfl (by rw [hr41.len]; exact sz33) (by rw [hr41.len]; rfl) hr41.one ?_; intro w cx hg7
        replace cx := cx.set0
        replace hQ := hQ.mv (fzSetC cx hg7)
        replace hr41 := (fzSetC cx hg7).rep hr41
        refine x_next ⟨.inr (by kernel_rfl), ?_⟩
        refine x_one (i := 6) (by kernel_rfl) rfl ?_
        refine s_val rfl rfl (v_extract rfl rfl rfl) ?_
        refine x_next ⟨.inr (by kernel_rfl), ?_⟩
        refine x_one (i := 10) (by kernel_rfl) rfl ?_
        refine s_val rfl rfl (v_assign rfl rfl) ?_
        refine x_next ⟨.inr (by kernel_rfl), ?_⟩
        refine x_one (i := 11) (by kernel_rfl) rfl ?_
        refine s_val rfl rfl (v_assign rfl rfl) ?_
        refine x_next ⟨.inr (by kernel_rfl), ?_⟩
        refine x_done (by kernel_rfl) ?_
        exact ⟨_, rfl, b10, r41, rfl, rfl, rfl, rfl, rfl, rfl, rfl, cx, hr41, hQ⟩
      refine s_storeAllG cx 0 rfl rfl rfl rfl rfl rfl (by rw [hr41.len]; exact sz33) (by rw [hr41.len]; rfl) hr41.one ?_; intro w cx hg7
      replace cx := cx.set0
      replace hQ := hQ.mv (fzSetC cx hg7)
      replace hr41 := (fzSetC cx hg7).rep hr41
      refine x_next ⟨.inr (by kernel_rfl), ?_⟩
      refine x_two (i := 6) (j := 7) (by kernel_rfl) rfl rfl ?_ ?_
      · skip
        refine s_val rfl rfl (v_extract rfl rfl rfl) ?_
        refine x_next ⟨.inr (by kernel_rfl), ?_⟩
        refine x_two (i := 7) (j := 10) (by kernel_rfl) rfl rfl ?_ ?_
        · skip
          refine s_val rfl rfl (v_extract rfl rfl rfl) ?_
          refine x_next ⟨.inr (by kernel_rfl), ?_⟩
          refine x_one (i := 10) (by kernel_rfl) rfl ?_
          refine s_val rfl rfl (v_assign rfl rfl) ?_
          refine x_next ⟨.inr (by kernel_rfl), ?_⟩
          refine x_one (i := 11) (by kernel_rfl) rfl ?_
          refine s_val rfl rfl (v_assign rfl rfl) ?_
          refine x_next ⟨.inr (by kernel_rfl), ?_⟩
          refine x_done (by kernel_rfl) ?_
          exact ⟨_, rfl, b10, r41, rfl, rfl, rfl, rfl, rfl, rfl, rfl, cx, hr41, hQ⟩
        refine s_val rfl rfl (v_assign rfl rfl) ?_
        refine x_next ⟨.inr (by kernel_rfl), ?_⟩
        refine x_one (i := 7) (by kernel_rfl) rfl ?_
        refine s_val rfl rfl (v_extract rfl rfl rfl) ?_
        refine x_next ⟨.inr (by kernel_rfl), ?_⟩
        refine x_one (i := 11) (by kernel_rfl) rfl ?_
        refine s_val rfl rfl (v_assign rfl rfl) ?_
        refine x_next ⟨.inr (by kernel_rfl), ?_⟩
        refine x_done (by kernel_rfl) ?_
        exact ⟨_, rfl, b10, r41, rfl, rfl, rfl, rfl, rfl, rfl, rfl, cx, hr41, hQ⟩
      refine s_val rfl rfl (v_extract rfl rfl rfl) ?_
      refine x_next ⟨.inr (by kernel_rfl), ?_⟩
      refine x_one (i := 6) (by kernel_rfl) rfl ?_
      refine s_val rfl rfl (v_extract rfl rfl rfl) ?_
      refine x_next ⟨.inr (by kernel_rfl), ?_⟩
      refine x_one (i := 10) (by kernel_rfl) rfl ?_
      refine s_val rfl rfl (v_assign rfl rfl) ?_
      refine x_next ⟨.inr (by kernel_rfl), ?_⟩
      refine x_one (i := 11) (by kernel_rfl) rfl ?_
      refine s_val rfl rfl (v_assign rfl rfl) ?_
      refine x_next ⟨.inr (by kernel_rfl), ?_⟩
      refine x_done (by kernel_rfl) ?_
      exact ⟨_, rfl, b10, r41, rfl, rfl, rfl, rfl, rfl, rfl, rfl, cx, hr41, hQ⟩
    · skip
      refine s_val rfl rfl (v_extract rfl rfl rfl) ?_
      refine x_next ⟨.inr (by kernel_rfl), ?_⟩
      refine x_two (i := 5) (j := 7) (by kernel_rfl) rfl rfl ?_ ?_
      · skip
        refine s_val rfl rfl (v_extract rfl rfl rfl) ?_
        refine x_next ⟨.inr (by kernel_rfl), ?_⟩
        refine x_two (i := 7) (j := 9) (by kernel_rfl) rfl rfl ?_ ?_
        · skip
          refine s_val rfl rfl (v_extract rfl rfl rfl) ?_
          refine x_next ⟨.inr (by kernel_rfl), ?_⟩
          refine x_one (i := 9) (by kernel_rfl) rfl ?_
          refine s_storeAllG cx 0 rfl rfl rfl rfl rfl rfl (by rw [hr41.len]; exact sz33) (by rw [hr41.len]; rfl) hr41.one ?_; intro w cx hg7
          replace cx := cx.set0
          replace hQ := hQ.mv (fzSetC cx hg7)
          replace hr41 := (fzSetC cx hg7).rep hr41
          refine x_next ⟨.inr (by kernel_rfl), ?_⟩
          refine x_one (i := 10) (by kernel_rfl) rfl ?_
          refine s_val rfl rfl (v_assign rfl rfl) ?_
          refine x_next ⟨.inr (by kernel_rfl), ?_⟩
          refine x_one (i := 11) (by kernel_rfl) rfl ?_
          refine s_val rfl rfl (v_assign rfl rfl) ?_
          refine x_next ⟨.inr (by kernel_rfl), ?_⟩
          refine x_done (by kernel_rfl) ?_
          exact ⟨_, rfl, b10, r41, rfl, rfl, rfl, rfl, rfl, rfl, rfl, cx, hr41, hQ⟩
        refine s_storeAllG cx 0 rfl rfl rfl rfl rfl rfl (by rw [hr41.len]; exact sz33) (by rw [hr41.len]; rfl) hr41.one ?_; intro w cx hg7
        replace cx := cx.set0
        replace hQ := hQ.mv (fzSetC cx hg7)
        replace hr41 := (fzSetC cx hg7).rep hr41
        refine x_next ⟨.inr (by kernel_rfl), ?_⟩
        refine x_two (i := 7) (j := 10) (by kernel_rfl) rfl rfl ?_ ?_
        · skip
          refine s_val rfl rfl (v_extract rfl rfl rfl) ?_
          refine x_next ⟨.inr (by kernel_rfl), ?_⟩
          refine x_one (i := 10) (by kernel_rfl) rfl ?_
          refine s_val rfl rfl (v_assign rfl rfl) ?_
          refine x_next ⟨.inr (by kernel_rfl), ?_⟩
          refine x_one (i := 11) (by kernel_rfl) rfl ?_
          refine s_val rfl rfl (v_assign rfl rfl) ?_
          refine x_next ⟨.inr (by kernel_rfl), ?_⟩
          refine x_done (by kernel_rfl) ?_
          exact ⟨_, rfl, b10, r41, rfl, rfl, rfl, rfl, rfl, rfl, rfl, cx, hr41, hQ⟩
        refine s_val rfl rfl (v_assign rfl rfl) ?_
        refine x_next ⟨.inr (by kernel_rfl), ?_⟩
        refine x_one (i := 7) (by kernel_rfl) rfl ?_
        refine s_val rfl rfl (v_extract rfl rfl rfl) ?_
        refine x_next ⟨.inr (by kernel_rfl), ?_⟩
        refine x_one (i := 11) (by kernel_rfl) rfl ?_
        refine s_val rfl rfl (v_assign rfl rfl) ?_
        refine x_next ⟨.inr (by kernel_rfl), ?_⟩
        refine x_done (by kernel_rfl) ?_
        exact ⟨_, rfl, b10, r41, rfl, rfl, rfl, rfl, rfl, rfl, rfl, cx, hr41, hQ⟩
      refine s_val rfl rfl (v_extract rfl rfl rfl) ?_
      refine x_next ⟨.inr (by kernel_rfl), ?_⟩
      refine x_one (i := 5) (by kernel_rfl) rfl ?_
      refine s_val rfl rfl (v_extract rfl rfl rfl) ?_
      refine x_next ⟨.inr (by kernel_rfl), ?_⟩
      refine x_one (i := 9) (by kernel_rfl) rfl ?_
      refine s_storeAllG cx 0 rfl rfl rfl rfl rfl rfl (by rw [hr41.len]; exact sz33) (by rw [hr41.len]; rfl) hr41.one ?_; intro w cx hg7
      replace cx := cx.set0
      replace hQ := hQ.mv (fzSetC cx hg7)
      replace hr41 := (fzSetC cx hg7).rep hr41
      refine x_next ⟨.inr (by kernel_rfl), ?_⟩
      refine x_one (i := 10) (by kernel_rfl) rfl ?_
      refine s_val rfl rfl (v_assign rfl rfl) ?_
      refine x_next ⟨.inr (by kernel_rfl), ?_⟩
      refine x_one (i := 11) (by kernel_rfl) rfl ?_
      refine s_val rfl rfl (v_assign rfl rfl) ?_
      refine x_next ⟨.inr (by kernel_rfl), ?_⟩
      refine x_done (by kernel_rfl) ?_
      exact ⟨_, rfl, b10, r41, rfl, rfl, rfl, rfl, rfl, rfl, rfl, cx, hr41, hQ⟩
    refine s_val rfl rfl (v_extract rfl rfl rfl) ?_
    refine x_next ⟨.inr (by kernel_rfl), ?_⟩
    refine x_two (i := 5) (j := 6) (by kernel_rfl) rfl rfl ?_ ?_
    · skip
      refine s_val rfl rfl (v_extract rfl rfl rfl) ?_
      refine x_next ⟨.inr (by kernel_rfl), ?_⟩
      refine x_two (i := 6) (j := 9) (by kernel_rfl) rfl rfl ?_ ?_
      · skip
        refine s_val rfl rfl (v_extract rfl rfl rfl) ?_
        refine x_next ⟨.inr (by kernel_rfl), ?_⟩
        refine x_one (i := 9) (by kernel_rfl) rfl ?_
        refine s_storeAllG cx 0 rfl rfl rfl rfl rfl rfl (by rw [hr41.len]; exact sz33) (by rw [hr41.len]; rfl) hr41.one ?_; intro w cx hg7
        replace cx := cx.set0
        replace hQ := hQ.mv (fzSetC cx hg7)
        replace hr41 := (fzSetC cx hg7).rep hr41
        refine x_next ⟨.inr (by kernel_rfl), ?_⟩
        refine x_one (i := 10) (by kernel_rfl) rfl ?_
        refine s_val rfl rfl (v_assign rfl rfl) ?_
        refine x_next ⟨.inr (by kernel_rfl), ?_⟩
        refine x_one (i := 11) (by kernel_rfl) rfl ?_
        refine s_val rfl rfl (v_assign rfl rfl) ?_
        refine x_next ⟨.inr (by kernel_rfl), ?_⟩
        refine x_done (by kernel_rfl) ?_
        exact ⟨_, rfl, b10, r41, rfl, rfl, rfl, rfl, rfl, rfl, rfl, cx, hr41, hQ⟩
      refine s_storeAllG cx 0 rfl rfl rfl rfl rfl rfl (by rw [hr41.len]; exact sz33) (by rw [hr41.len]; rfl) hr41.one ?_; intro w cx hg7
      replace cx := cx.set0
      replace hQ := hQ.mv (fzSetC cx hg7)
      replace hr41 := (fzSetC cx hg7).rep hr41
      refine x_next ⟨.inr (by kernel_rfl), ?_⟩
      refine x_one (i := 6) (by kernel_rfl) rfl ?_
      refine s_val rfl rfl (v_extract rfl rfl rfl) ?_
      refine x_next ⟨.inr (by kernel_rfl), ?_⟩
      refine x_one (i := 10) (by kernel_rfl) rfl ?_
      refine s_val rfl rfl (v_assign rfl rfl) ?_
      refine x_next ⟨.inr (by kernel_rfl), ?_⟩
      refine x_one (i := 11) (by kernel_rfl) rfl ?_
      refine s_val rfl rfl (v_assign rfl rfl) ?_
      refine x_next ⟨.inr (by kernel_rfl), ?_⟩
      refine x_done (by kernel_rfl) ?_
      exact ⟨_, rfl, b10, r41, rfl, rfl, rfl, rfl, rfl, rfl, rfl, cx, hr41, hQ⟩
    refine s_val rfl rfl (v_extract rfl rfl rfl) ?_
    refine x_next ⟨.inr (by kernel_rfl), ?_⟩
    refine x_one (i := 5) (by kernel_rfl) rfl ?_
    refine s_val rfl rfl (v_extract rfl rfl rfl) ?_
    refine x_next ⟨.inr (by kernel_rfl), ?_⟩
    refine x_one (i := 9) (by kernel_rfl) rfl ?_
    refine s_storeAllG cx 0 rfl rfl rfl rfl rfl rfl (by rw [hr41.len]; exact sz33) (by rw [hr41.len]; rfl) hr41.one ?_; intro w cx hg7
    replace cx := cx.set0
    replace hQ := hQ.mv (fzSetC cx hg7)
    replace hr41 := (fzSetC cx hg7).rep hr41
    refine x_next ⟨.inr (by kernel_rfl), ?_⟩
    refine x_one (i := 10) (by kernel_rfl) rfl ?_
    refine s_val rfl rfl (v_assign rfl rfl) ?_
    refine x_next ⟨.inr (by kernel_rfl), ?_⟩
    refine x_one (i := 11) (by kernel_rfl) rfl ?_
    refine s_val rfl rfl (v_assign rfl rfl) ?_
    refine x_next ⟨.inr (by kernel_rfl), ?_⟩
    refine x_done (by kernel_rfl) ?_
    exact ⟨_, rfl, b10, r41, rfl, rfl, rfl, rfl, rfl, rfl, rfl, cx, hr41, hQ⟩
  intro f w hJ
  obtain ⟨b10, r41, hs2, hs3, hs5, hs7, hs9, hs10, hs12, cx, hr41, hQ⟩ := hJ
  refine wp_seq ?_
  refine wp_region_lit ?_
  refine s_val rfl rfl (v_load rfl hs2 Try.underlying33 rfl sz33 hQ.a.2 ha.len) ?_
  refine s_val rfl rfl (v_load rfl hs3 Try.underlying33 rfl sz33 hQ.b.2 hb.len) ?_
  refine s_fnB cx (c27 av bv _ _ _ hfa hfb (ha.up cx.ext) (hb.up cx.ext)) Try.func27 rfl rfl rfl rfl rfl rfl ?_; intro q47 w cx hw47 hp47
  replace hQ := hQ.mv (Fz.belC cx hw47)
  replace hr41 := (Fz.belC cx hw47).rep hr41
  refine s_val rfl rfl (v_assign rfl rfl) ?_
  refine wpList_nil ?_
  refine wp_seq ?_
  refine wp_seq ?_
  refine wp_region_lit ?_
  refine s_val rfl rfl (v_move rfl hs9) ?_
  refine s_val rfl rfl (v_cmp rfl rfl rfl rfl) ?_
  refine s_val rfl rfl (v_move rfl rfl) ?_
  refine s_gval rfl rfl rfl wF (fun hc => v_load rfl hs7 Try.underlying33 rfl sz33 (cx.row 1 rfl) hQ.r.len) ?_
  refine s_gval rfl rfl rfl wF (fun hc => v_load rfl hs3 Try.underlying33 rfl sz33 hQ.b.2 hb.len) ?_
  refine s_gfnB cx rfl rfl rfl wF (fun hc => c27 z bv _ _ _ hfz hfb (valF hQ.r) (hb.up cx.ext)) Try.func27 rfl rfl rfl (fun hc => cons_eq (gve hc rfl) (cons_eq (gve hc rfl) rfl)) ?_; intro q53 w cx hw53 hp53
  replace hQ := hQ.mv (Fz.belC cx hw53)
  replace hr41 := (Fz.belC cx hw53).rep hr41
  refine s_gval rfl rfl rfl wF (fun hc => v_not rfl (by first | exact gve hc rfl | exact gve (and_l hc) rfl | exact gve (and_l (and_l hc)) rfl | rfl)) ?_
  refine s_val rfl rfl (v_or rfl rfl rfl rfl) ?_
  refine s_val rfl rfl (v_move rfl rfl) ?_
  refine s_gval rfl rfl rfl wF (fun hc => v_move rfl hs5) ?_
  refine s_gval rfl rfl rfl wF (fun hc => v_lenSlice rfl (by first | exact gve hc rfl | exact gve (and_l hc) rfl | exact gve (and_l (and_l hc)) rfl | rfl) Try.underlying22) ?_
  refine s_gval rfl rfl rfl wF (fun hc => v_cmp rfl (by first | exact gve hc rfl | exact gve (and_l hc) rfl | exact gve (and_l (and_l hc)) rfl | rfl) rfl rfl) ?_
  refine s_gval rfl rfl rfl wF (fun hc => v_move rfl (by first | exact gve hc rfl | exact gve (and_l hc) rfl | exact gve (and_l (and_l hc)) rfl | rfl)) ?_
  refine s_gval rfl rfl rfl wF (fun hc => v_boolNe rfl (gve hc rfl) (gve hc rfl) Try.underlying4) ?_
  refine s_val rfl rfl (v_or rfl rfl rfl rfl) ?_
  refine s_val rfl rfl (v_move rfl rfl) ?_
  refine s_gval rfl rfl rfl wF (fun hc => v_load rfl hs2 Try.underlying33 rfl sz33 hQ.a.2 ha.len) ?_
  refine s_gval rfl rfl rfl wF (fun hc => v_load rfl hs3 Try.underlying33 rfl sz33 hQ.b.2 hb.len) ?_
  refine s_gfn cx rfl rfl rfl wF (fun hc => c30 E hE av bv _ _ _ (ha.up cx.ext) (hb.up cx.ext) ga.okd gb.okd hfa hfb (by omega)) Try.func30 rfl rfl rfl (fun hc => cons_eq (gve hc rfl) (cons_eq (gve hc rfl) rfl)) ?_; intro q66 w cx hw66 hp66
  replace hQ := hQ.mv (Fz.belC cx hw66)
  replace hr41 := (Fz.belC cx hw66).rep hr41
  refine s_gval rfl rfl rfl wF (fun hc => (by obtain ⟨pa, pc, pg, pcs, e, _⟩ := hp66 hc; exact v_lenSlice rfl ((gve hc rfl).trans e) Try.underlying46)) ?_
  refine s_gval rfl rfl rfl wF (fun hc => v_cmp rfl (by first | exact gve hc rfl | exact gve (and_l hc) rfl | exact gve (and_l (and_l hc)) rfl | rfl) rfl rfl) ?_
  refine s_gval rfl rfl rfl wF (fun hc => v_move rfl (by first | exact gve hc rfl | exact gve (and_l hc) rfl | exact gve (and_l (and_l hc)) rfl | rfl)) ?_
  refine s_gval rfl rfl rfl wF (fun hc => v_boolNe rfl (gve hc rfl) (gve hc rfl) Try.underlying4) ?_
  refine s_val rfl rfl (v_or rfl rfl rfl rfl) ?_
  refine wpList_nil ?_
  refine c_split rfl (fun hc71 => ?_) (fun hc71 => ?_)
  · skip
    exfalso
    have q1 : q53 = true := (hp53 rfl).2 hcz
    have q2 : ((B.length : Int) == 0) = q47 := by rw [Bool.eq_iff_iff, hp47, ← hiff]; exact len0 B
    have q3 : (((dfr E 48 [] av bv).length : Int) == 0) = q47 := by rw [Bool.eq_iff_iff, hp47, ← hdif]; exact len0 _
    rw [q1, q2, q3] at hc71
    simp at hc71
  refine wp_skip ?_
  refine wp_seq ?_
  refine wp_region_lit ?_
  refine s_val rfl rfl (v_move rfl hs12) ?_
  refine s_val rfl rfl (v_cmp rfl rfl rfl rfl) ?_
  refine s_val rfl rfl (v_move rfl rfl) ?_
  refine s_gval rfl rfl rfl wT (fun hc => v_load rfl hs10 Try.underlying33 rfl sz33 (cx.row 0 rfl) hr41.len) ?_
  refine s_gval rfl rfl rfl wT (fun hc => v_load rfl hs2 Try.underlying33 rfl sz33 hQ.a.2 ha.len) ?_
  refine s_gfnB cx rfl rfl rfl wT (fun hc => c27 av av _ _ _ hfa hfa (valF hr41) (ha.up cx.ext)) Try.func27 rfl rfl rfl (fun hc => cons_eq (gve hc rfl) (cons_eq (gve hc rfl) rfl)) ?_; intro q77 w cx hw77 hp77
  refine s_val rfl rfl (v_and rfl rfl rfl rfl) ?_
  refine s_val rfl rfl (v_assign rfl rfl) ?_
  refine wpList_nil ?_
  refine wp_ret ?_
  refine ret_tmp Try.results16 rfl ?_
  refine ⟨cx.ext, _, rfl, ?_⟩
  show (((0 : Int) == 0) && q77) = true
  rw [(hp77 rfl).2 rfl]; rfl
end Go.Proofs.Ytmkihcdcgkdilaa
end
section
namespace Go.Proofs.Ytmkihcdcgkdilaa
open Go Go.Dk Go.RowKit
open Rows (uptoBulk uptoBulkAll)
set_option linter.unusedSimpArgs false
theorem szd_mono {N N' : Nat} (h : N ≤ N') : ∀ (d : Nat) (v : V), szd N d v → szd N' d v
  | 0, _, _ => trivial
  | d + 1, v, hv => by
    obtain ⟨h1, h2, h3, h4, h5, h6, h7⟩ := hv
    exact ⟨by omega, by omega, by omega, by omega, by omega, fun x hx => szd_mono h d x (h6 x hx), fun x hx => ⟨by have := (h7 x hx).1; omega, szd_mono h d x.2 (h7 x hx).2⟩⟩
section
variable {H : Type}
theorem bulk_one (d : DataW H) : 1 ≤ uptoBulk d := by
  cases d with
  | lit l => cases l <;> simp [uptoBulk]
  | _ => simp [uptoBulk]
theorem bulk_part {d : DataW H} {l : List (DataW H)} (h : d ∈ l) : uptoBulk d ≤ uptoBulkAll l := by
  induction l with
  | nil => cases h
  | cons x r ih =>
    simp only [uptoBulkAll]
    cases List.mem_cons.1 h with
    | inl e => subst e; omega
    | inr e => have := ih e; omega
theorem bulk_length (l : List (DataW H)) : l.length ≤ uptoBulkAll l := by
  induction l with
  | nil => simp [uptoBulkAll]
  | cons x r ih => have := bulk_one x; simp only [uptoBulkAll, List.length_cons]; omega
theorem cells_row {w : World} {base n : Nat} {a : Addr} {cs : List Value} (h : w.cells? base a n = some cs) : cs.length = n ∧ ∀ i x, cs[i]? = some x → w.cell? (a.add i) = some x := by
  unfold World.cells? at h
  split at h
  · have hl := mapM_some_length h
    simp only [List.length_range] at hl
    refine ⟨hl, fun i x hx => ?_⟩
    have hi : i < n := by have := (List.getElem?_eq_some_iff.1 hx).1; omega
    have := mapM_some_get h i i (by simp [hi])
    rw [this]; exact hx
  · cases h
theorem add_add (a : Addr) (h : a.spot = none) (i j : Nat) : (a.add i).add j = ⟨a.block, a.off + i + j, none⟩ := by
  obtain ⟨b, o, sp⟩ := a
  simp only at h
  subst h
  rw [add_addr, add_addr]
variable {enc : TypeId × Value → H} {w : World} {base : Nat} {spare : Nat → Bool} {held : Bool}
theorem rd_slice {t e k n : Nat} {cs : List Value} {x : DataW H × List MemPlace} (ht : Try.prog.underlying t = some (.slice e)) (hk : Try.prog.cellsOf e = k) (hk0 : 0 < k) (h : DataW.trod enc Try.prog w base spare held (n + 1) t cs = some x) :
    ∃ s len b o, cs = [s] ∧ SliceAt (fun b => b < w.heap.size) s len b o ∧ len + 1 ≤ uptoBulk x.1 + 1 ∧
      ∀ i, i < len → ∃ r y, r.length = k ∧ RowAt w b (o + i * k) r ∧ DataW.trod enc Try.prog w base spare held n e r = some y ∧ uptoBulk y.1 + 1 ≤ uptoBulk x.1 := by
  rcases DataW.trod_slice ht h with ⟨rfl, rfl⟩ | ⟨a, len, cap, elems, rest, n', hn, rfl, rfl, hb, hl, hm, hlen, hel, _, _⟩
  · exact ⟨_, 0, 0, 0, rfl, .inl ⟨rfl, rfl⟩, by omega, fun i hi => by omega⟩
  · obtain rfl : n = n' := by omega
    have hb1 : uptoBulkAll (elems.map (·.1)) + 1 ≤ uptoBulk (DataW.slice (elems.map (·.1)) (rest.map (·.1))) := by simp only [uptoBulk]; omega
    have hb2 := bulk_length (elems.map (·.1))
    simp only [List.length_map] at hb2
    have key : ∀ i, i < len → ∃ r y, r.length = k ∧ (∀ j x, r[j]? = some x → w.cell? ((a.add (i * k)).add j) = some x) ∧ DataW.trod enc Try.prog w base spare held n e r = some y ∧ y ∈ elems := by
      intro i hi
      have h1 := hel i hi
      rw [hk] at h1
      have hi' : i < elems.length := by omega
      rw [List.getElem?_eq_getElem hi'] at h1
      cases hc : w.cells? base (a.add (i * k)) k with
      | none => rw [hc] at h1; cases h1
      | some r =>
        rw [hc] at h1
        obtain ⟨h2, h3⟩ := cells_row hc
        exact ⟨r, elems[i], h2, h3, h1, List.getElem_mem _⟩
    have hspot : 0 < len → a.spot = none := by
      intro h0
      obtain ⟨r, y, h1, h2, _⟩ := key 0 h0
      have hr : r[0]? = some r[0] := List.getElem?_eq_getElem (by omega)
      have := World.cell?_spot (h2 0 _ hr)
      simpa [Addr.add] using this
    have hblk : 0 < len → a.block < w.heap.size := by
      intro h0
      obtain ⟨r, y, h1, h2, _⟩ := key 0 h0
      have hr : r[0]? = some r[0] := List.getElem?_eq_getElem (by omega)
      have := block_lt_of_cell (h2 0 _ hr)
      simpa [Addr.add] using this
    refine ⟨_, len, a.block, a.off, rfl, .inr ⟨a, cap, rfl, hl, fun h0 => ⟨?_, hblk h0⟩⟩, by dsimp only; omega, ?_⟩
    · have := hspot h0
      obtain ⟨b, o, sp⟩ := a
      simp only at this
      subst this
      rfl
    · intro i hi
      obtain ⟨r, y, h1, h2, h3, h4⟩ := key i hi
      refine ⟨r, y, h1, fun j x hj => ?_, h3, ?_⟩
      · have := h2 j x hj
        rwa [add_add a (hspot (by omega))] at this
      · have := bulk_part (List.mem_map.2 ⟨y, h4, rfl⟩ : y.1 ∈ elems.map (·.1))
        dsimp only
        omega
theorem cellsOf_of {t k : Nat} (h : (Try.prog.info? t).map (·.size) = some k) : Try.prog.cellsOf t = k := by unfold Program.cellsOf; rw [h]; rfl
theorem rd_struct {t k n : Nat} {fs : Array Field} {cs : List Value} {x : DataW H × List MemPlace} (ht : Try.prog.underlying t = some (.struct fs)) (hk : Try.prog.cellsOf t = k) (h : DataW.trod enc Try.prog w base spare held (n + 1) t cs = some x) :
    cs.length = k ∧ ∀ (i ty off m : Nat), (fs[i]?.map fun f => (f.type, f.offset)) = some (ty, off) → Try.prog.cellsOf ty = m → ∃ y, DataW.trod enc Try.prog w base spare held n ty ((cs.drop off).take m) = some y ∧ uptoBulk y.1 + 1 ≤ uptoBulk x.1 := by
  obtain ⟨xs, n', hn, rfl, hl, hlen, hf⟩ := DataW.trod_struct ht h
  obtain rfl : n = n' := by omega
  refine ⟨hl.trans hk, fun i ty off m hfi hm => ?_⟩
  cases hfi' : fs[i]? with
  | none => rw [hfi'] at hfi; cases hfi
  | some f =>
  rw [hfi'] at hfi
  simp only [Option.map_some, Option.some.injEq, Prod.mk.injEq] at hfi
  obtain ⟨rfl, rfl⟩ := hfi
  subst hm
  have hi : i < xs.length := by rw [hlen]; exact (Array.getElem?_eq_some_iff.1 hfi').1
  have h1 := hf i f hfi'
  rw [List.getElem?_eq_getElem hi] at h1
  refine ⟨xs[i], h1, ?_⟩
  have := bulk_part (List.mem_map.2 ⟨xs[i], List.getElem_mem _, rfl⟩ : xs[i].1 ∈ xs.map (·.1))
  simp only [uptoBulk]
  omega
theorem rd_int {t n : Nat} {k : IntKind} {cs : List Value} {x : DataW H × List MemPlace} (ht : Try.prog.underlying t = some (.int k)) (h : DataW.trod enc Try.prog w base spare held n t cs = some x) : ∃ m, cs = [.int k m] := by
  obtain ⟨m, h1, _⟩ := DataW.trod_int ht h; exact ⟨m, h1⟩
theorem rd_bool {t n : Nat} {cs : List Value} {x : DataW H × List MemPlace} (ht : Try.prog.underlying t = some .bool) (h : DataW.trod enc Try.prog w base spare held n t cs = some x) : ∃ m, cs = [.bool m] := by
  obtain ⟨m, h1, _⟩ := DataW.trod_bool ht h; exact ⟨m, h1⟩
theorem rd_string {t n : Nat} {cs : List Value} {x : DataW H × List MemPlace} (ht : Try.prog.underlying t = some .string) (h : DataW.trod enc Try.prog w base spare held n t cs = some x) : ∃ s : ByteArray, cs = [.string s] ∧ s.size + 1 ≤ uptoBulk x.1 := by
  obtain ⟨s, h1, rfl, _⟩ := DataW.trod_string ht h
  refine ⟨s, h1, ?_⟩
  simp only [uptoBulk, Array.length_toList]
  exact Nat.le_refl _
theorem RepLs_of {A : Nat → Prop} {w : World} {b : Nat} : ∀ (l : List V) (o : Nat), (∀ i v, l[i]? = some v → ∃ r, RowAt w b (o + i * 13) r ∧ RepV A w v r) → RepLs A w b o l
  | [], _, _ => trivial
  | v :: l, o, h => by
    simp only [RepLs]
    refine ⟨by simpa using h 0 v rfl, RepLs_of l (o + 13) fun i u hu => ?_⟩
    have := h (i + 1) u (by simpa using hu)
    rwa [show o + (i + 1) * 13 = o + 13 + i * 13 by omega] at this
theorem RepFs_of {A : Nat → Prop} {w : World} {b : Nat} : ∀ (l : List (ByteArray × V)) (o : Nat), (∀ i kv, l[i]? = some kv → ∃ r, RowAt w b (o + i * 14) (.string kv.1 :: r) ∧ RepV A w kv.2 r) → RepFs A w b o l
  | [], _, _ => trivial
  | (k, v) :: l, o, h => by
    simp only [RepFs, RepP]
    refine ⟨by simpa using h 0 (k, v) rfl, RepFs_of l (o + 14) fun i u hu => ?_⟩
    have := h (i + 1) u (by simpa using hu)
    rwa [show o + (i + 1) * 14 = o + 14 + i * 14 by omega] at this
theorem list_of {α : Type} {p : Nat → α → Prop} (n : Nat) (h : ∀ i, i < n → ∃ a, p i a) : ∃ l : List α, l.length = n ∧ ∀ i a, l[i]? = some a → p i a := by
  induction n with
  | zero => exact ⟨[], rfl, fun i a ha => by simp at ha⟩
  | succ n ih =>
    obtain ⟨l, hl, hp⟩ := ih fun i hi => h i (by omega)
    obtain ⟨a, ha⟩ := h n (by omega)
    refine ⟨l ++ [a], by simp [hl], fun i b hb => ?_⟩
    rcases Nat.lt_or_ge i n with hi | hi
    · rw [List.getElem?_append_left (by omega)] at hb; exact hp i b hb
    · rw [List.getElem?_append_right (by omega)] at hb
      have : i = n := by
        rcases Nat.eq_zero_or_pos (i - l.length) with h0 | h0
        · omega
        · rw [List.getElem?_eq_none (by simp; omega)] at hb; cases hb
      subst this
      rw [hl, Nat.sub_self] at hb
      simp at hb
      subst hb
      exact ha
theorem cells13 {l : List Value} (h : l.length = 13) : ∃ c0 c1 c2 c3 c4 c5 c6 c7 c8 c9 c10 c11 c12, l = [c0, c1, c2, c3, c4, c5, c6, c7, c8, c9, c10, c11, c12] := by
  match l, h with
  | [c0, c1, c2, c3, c4, c5, c6, c7, c8, c9, c10, c11, c12], _ => exact ⟨_, _, _, _, _, _, _, _, _, _, _, _, _, rfl⟩
theorem cells14 {l : List Value} (h : l.length = 14) : ∃ c0 r, l = c0 :: r ∧ r.length = 13 := by
  match l, h with
  | c0 :: r, h => exact ⟨_, _, rfl, by simpa using h⟩
theorem rd_bytes {t n : Nat} {cs : List Value} {x : DataW H × List MemPlace} (ht : Try.prog.underlying t = some (.slice 5)) (h : DataW.trod enc Try.prog w base spare held n t cs = some x) :
    ∃ s l, cs = [s] ∧ RepB (fun b => b < w.heap.size) w s l ∧ l.length ≤ uptoBulk x.1 := by
  cases n with
  | zero => simp [DataW.trod] at h
  | succ n =>
  obtain ⟨s, len, b, o, rfl, hs, hb, hel⟩ := rd_slice ht (cellsOf_of sz5) (by omega) h
  obtain ⟨l, hl, hp⟩ := list_of (p := fun i (u : UInt8) => w.cell? ⟨b, o + i, none⟩ = some (byteVal u)) len fun i hi => by
    obtain ⟨r, y, hr, h1, h2, _⟩ := hel i hi
    obtain ⟨m, rfl⟩ := rd_int Try.underlying5 h2
    obtain ⟨m', e, _, hm⟩ := DataW.trod_int Try.underlying5 h2
    have := h1 0 _ rfl
    rw [Nat.mul_one, Nat.add_zero] at this
    obtain ⟨u, hu⟩ : ∃ u : UInt8, Value.int .u8 m = byteVal u := by
      refine ⟨UInt8.ofNat m.toNat, ?_⟩
      simp only [List.cons.injEq, Value.int.injEq, true_and, and_true] at e
      subst e
      simp only [Lit.wf, IntKind.min, IntKind.max, Bool.and_eq_true, decide_eq_true_eq] at hm
      simp only [byteVal]
      have h0 : 0 ≤ m := by have := hm.1; simpa [IntKind.signed] using this
      have h1 : m ≤ 255 := by have := hm.2; simpa [IntKind.signed, IntKind.bits] using this
      rw [UInt8.toNat_ofNat_of_lt' (by show m.toNat < 256; omega), Int.toNat_of_nonneg h0]
    exact ⟨u, by rw [this, hu]⟩
  subst hl
  refine ⟨s, l, rfl, ⟨b, o, hs, fun i y hy => ?_⟩, by omega⟩
  rw [List.getElem?_map] at hy
  cases hu : l[i]? with
  | none => rw [hu] at hy; cases hy
  | some u =>
    rw [hu] at hy
    simp only [Option.map_some, Option.some.injEq] at hy
    rw [hp i u hu, hy]
def Has (w : World) (cs : List Value) (N : Nat) : Prop := ∃ v, Val w v cs ∧ ∀ d, szd N d v
theorem rd33 : ∀ (n : Nat) (cs : List Value) (x : DataW H × List MemPlace), DataW.trod enc Try.prog w base spare held n 33 cs = some x → Has w cs (uptoBulk x.1) := by
  intro n
  induction n using Nat.strongRecOn with
  | _ n ih =>
  intro cs x h
  cases n with
  | zero => simp [DataW.trod] at h
  | succ n =>
  obtain ⟨hl, hf⟩ := rd_struct Try.underlying33 (cellsOf_of sz33) h
  obtain ⟨c0, c1, c2, c3, c4, c5, c6, c7, c8, c9, c10, c11, c12, rfl⟩ := cells13 hl
  obtain ⟨y0, t0, _⟩ := hf 0 3 0 1 rfl (cellsOf_of sz3)
  obtain ⟨y1, t1, _⟩ := hf 1 4 1 1 rfl (cellsOf_of sz4)
  obtain ⟨y2, t2, u2⟩ := hf 2 26 2 3 rfl (cellsOf_of sz26)
  obtain ⟨y3, t3, _⟩ := hf 3 28 5 4 rfl (cellsOf_of sz28)
  obtain ⟨y4, t4, u4⟩ := hf 4 9 9 1 rfl (cellsOf_of sz9)
  obtain ⟨y5, t5, u5⟩ := hf 5 29 10 1 rfl (cellsOf_of sz29)
  obtain ⟨y6, t6, u6⟩ := hf 6 30 11 1 rfl (cellsOf_of sz30)
  obtain ⟨y7, t7, u7⟩ := hf 7 31 12 1 rfl (cellsOf_of sz31)
  simp only [List.drop_succ_cons, List.drop_zero, List.take_succ_cons, List.take_zero] at t0 t1 t2 t3 t4 t5 t6 t7
  cases n with
  | zero => simp [DataW.trod] at t0
  | succ n =>
  obtain ⟨k, e0⟩ := rd_int Try.underlying3 t0
  obtain ⟨bo, e1⟩ := rd_bool Try.underlying4 t1
  obtain ⟨tx, e4, z4⟩ := rd_string Try.underlying9 t4
  simp only [List.cons.injEq, and_true] at e0 e1 e4
  subst e0 e1 e4
  obtain ⟨_, hn⟩ := rd_struct Try.underlying26 (cellsOf_of sz26) t2
  obtain ⟨n0, p0, _⟩ := hn 0 4 0 1 rfl (cellsOf_of sz4)
  obtain ⟨n1, p1, v1⟩ := hn 1 9 1 1 rfl (cellsOf_of sz9)
  obtain ⟨n2, p2, _⟩ := hn 2 3 2 1 rfl (cellsOf_of sz3)
  obtain ⟨_, ht⟩ := rd_struct Try.underlying28 (cellsOf_of sz28) t3
  obtain ⟨m0, q0, _⟩ := ht 0 3 0 1 rfl (cellsOf_of sz3)
  obtain ⟨m1, q1, _⟩ := ht 1 3 1 1 rfl (cellsOf_of sz3)
  obtain ⟨m2, q2, _⟩ := ht 2 3 2 1 rfl (cellsOf_of sz3)
  obtain ⟨m3, q3, _⟩ := ht 3 3 3 1 rfl (cellsOf_of sz3)
  simp only [List.drop_succ_cons, List.drop_zero, List.take_succ_cons, List.take_zero] at p0 p1 p2 q0 q1 q2 q3
  obtain ⟨neg, e⟩ := rd_bool Try.underlying4 p0
  simp only [List.cons.injEq, and_true] at e; subst e
  obtain ⟨dig, e, zd⟩ := rd_string Try.underlying9 p1
  simp only [List.cons.injEq, and_true] at e; subst e
  obtain ⟨ex, e⟩ := rd_int Try.underlying3 p2
  simp only [List.cons.injEq, and_true] at e; subst e
  obtain ⟨tk, e⟩ := rd_int Try.underlying3 q0
  simp only [List.cons.injEq, and_true] at e; subst e
  obtain ⟨td, e⟩ := rd_int Try.underlying3 q1
  simp only [List.cons.injEq, and_true] at e; subst e
  obtain ⟨tn, e⟩ := rd_int Try.underlying3 q2
  simp only [List.cons.injEq, and_true] at e; subst e
  obtain ⟨tz, e⟩ := rd_int Try.underlying3 q3
  simp only [List.cons.injEq, and_true] at e; subst e
  obtain ⟨bs, bl, e, hB, zB⟩ := rd_bytes Try.underlying29 t5
  simp only [List.cons.injEq, and_true] at e; subst e
  obtain ⟨ls, ll, b6, o6, e, s6, z6, g6⟩ := rd_slice Try.underlying30 (cellsOf_of sz33) (by omega) t6
  simp only [List.cons.injEq, and_true] at e; subst e
  obtain ⟨fs, fl, b7, o7, e, s7, z7, g7⟩ := rd_slice Try.underlying31 (cellsOf_of sz77) (by omega) t7
  simp only [List.cons.injEq, and_true] at e; subst e
  obtain ⟨L, hL, pL⟩ := list_of (p := fun i (v : V) => (∃ r, RowAt w b6 (o6 + i * 13) r ∧ Val w v r) ∧ ∀ d, szd (uptoBulk x.1) d v) ll fun i hi => by
    obtain ⟨r, y, _, h1, h2, h3⟩ := g6 i hi
    obtain ⟨v, h4, h5⟩ := ih n (by omega) r y h2
    exact ⟨v, ⟨r, h1, h4⟩, fun d => szd_mono (by omega) d v (h5 d)⟩
  obtain ⟨F, hF, pF⟩ := list_of (p := fun i (kv : ByteArray × V) => (∃ r, RowAt w b7 (o7 + i * 14) (.string kv.1 :: r) ∧ Val w kv.2 r) ∧ kv.1.size ≤ uptoBulk x.1 ∧ ∀ d, szd (uptoBulk x.1) d kv.2) fl fun i hi => by
    obtain ⟨r, y, hr, h1, h2, h3⟩ := g7 i hi
    cases n with
    | zero => simp [DataW.trod] at h2
    | succ n =>
    obtain ⟨hl, hg⟩ := rd_struct Try.underlying77 (cellsOf_of sz77) h2
    obtain ⟨c, r', rfl, hl'⟩ := cells14 hl
    obtain ⟨y0, a0, b0⟩ := hg 0 9 0 1 rfl (cellsOf_of sz9)
    obtain ⟨y1, a1, b1⟩ := hg 1 33 1 13 rfl (cellsOf_of sz33)
    simp only [List.drop_succ_cons, List.drop_zero, List.take_succ_cons, List.take_zero] at a0 a1
    rw [List.take_of_length_le (by omega)] at a1
    obtain ⟨key, e, zk⟩ := rd_string Try.underlying9 a0
    simp only [List.cons.injEq, and_true] at e; subst e
    obtain ⟨v, h4, h5⟩ := ih n (by omega) r' y1 a1
    exact ⟨(key, v), ⟨r', h1, h4⟩, by dsimp only; omega, fun d => szd_mono (by omega) d v (h5 d)⟩
  refine ⟨.mk ⟨k, bo, neg, dig, ex, tk, td, tn, tz, tx⟩ bl L F, RepV.mk (v := .mk ⟨k, bo, neg, dig, ex, tk, td, tn, tz, tx⟩ bl L F) hB ⟨b6, o6, by subst hL; exact s6, RepLs_of L o6 fun i v hv => (pL i v hv).1⟩ ⟨b7, o7, by subst hF; exact s7, RepFs_of F o7 fun i v hv => (pF i v hv).1⟩, fun d => ?_⟩
  cases d with
  | zero => trivial
  | succ d =>
    refine ⟨by simp only [V.sc]; omega, by simp only [V.sc]; omega, by simp only [V.bytes]; omega, by simp only [V.list]; omega, by simp only [V.fields]; omega, fun v hv => ?_, fun kv hv => ?_⟩
    · obtain ⟨i, hi⟩ := List.getElem?_of_mem hv
      exact (pL i v hi).2 d
    · obtain ⟨i, hi⟩ := List.getElem?_of_mem hv
      exact ⟨(pF i kv hi).2.1, (pF i kv hi).2.2 d⟩
end
end Go.Proofs.Ytmkihcdcgkdilaa
end
section
set_option linter.unusedVariables false
namespace Go.Proofs.Ytmkihcdcgkdilaa
open Go Go.Dk Go.RowKit
theorem agg13 {x : Value} (h : x.cells.toList.length = 13) : x = .agg (x.cells.toList).toArray := by
  cases x <;> first | rfl | (simp [Value.cells] at h)
theorem len_sum {α : Type} {f : α → Nat} (hf : ∀ x, 1 ≤ f x) : ∀ l : List α, l.length ≤ (l.map f).sum
  | [] => by simp
  | x :: l => by have := hf x; have := len_sum hf l; simp only [List.map_cons, List.sum_cons, List.length_cons]; omega
theorem mem_sum {α : Type} {f : α → Nat} : ∀ (l : List α) (x : α), x ∈ l → f x ≤ (l.map f).sum
  | y :: l, x, h => by
    simp only [List.map_cons, List.sum_cons]
    rcases List.mem_cons.1 h with rfl | h
    · omega
    · have := mem_sum (f := f) l x h; omega
theorem nw_tsz (m : Nat) : ∀ (d : Nat) (v : V), deep d v → tsz d v ≤ m → ∀ k, nw m k v
  | 0, _, h, _, _ => h.elim
  | d + 1, v, h, ht, 0 => trivial
  | d + 1, v, h, ht, k + 1 => by
    simp only [tsz] at ht
    refine ⟨?_, fun kv hk => nw_tsz m d kv.2 (h.2 kv hk) ?_ k⟩
    · have := len_sum (f := fun kv : ByteArray × V => tsz d kv.2) (fun kv => tsz_pos d kv.2) v.fields
      omega
    · have := mem_sum (f := fun kv : ByteArray × V => tsz d kv.2) v.fields kv hk
      omega
theorem good_valid (v : V) (h1 : okd 48 v) (h2 : deep 60 v) (h3 : tsz 60 v ≤ 100) (h4 : Fine v) : Gd 48 100 v := ⟨h1, h4, nw_tsz 100 60 v h2 h3⟩
end Go.Proofs.Ytmkihcdcgkdilaa
end
section
namespace Go.Proofs.Ytmkihcdcgkdilaa.diffBack
open Go Go.Dk Go.ChangeShapes Go.WideShapes Go.ChangeAt Go.RowKit
set_option linter.unusedVariables false

theorem own : ownKnob Try.prog.godebug = none := by kernel_rfl
theorem laidOut : laidOutB Try.prog = true := by kernel_rfl

set_option maxRecDepth 100000 in
theorem lifted (os : Os) (started : os.Started) (H : Type) (enc : TypeId × Value → H) (F : Stop.Interp) :
    ReturnsInHanded {} Try.checked os 16 .any ((Rows.OpenSpec.upto Rows.diffBackSpec).pre6 enc Try.prog Try.f16 Rows.diffBackUptoRow.domain false) (((Rows.OpenSpec.upto Rows.diffBackSpec).at F).post enc Try.prog Try.f16 false true false false) := by
  refine returnsInHanded_of_cond (C := Try.checked) (s := Rows.OpenSpec.upto Rows.diffBackSpec) (k := Rows.uptoSmall) rfl own started (by kernel_rfl) Try.func16
    (OpenSpec.witness (enc := enc) (C := Try.checked) (s := Rows.OpenSpec.upto Rows.diffBackSpec) (k := Rows.uptoSmall) rfl false ⟨#[], #[.agg #[.int .i64 0, .bool false, .bool false, .string ⟨#[]⟩, .int .i64 0, .int .i64 0, .int .i64 0, .int .i64 0, .int .i64 0, .string ⟨#[]⟩, .slice none 0 0, .slice none 0 0, .slice none 0 0], .agg #[.int .i64 0, .bool false, .bool false, .string ⟨#[]⟩, .int .i64 0, .int .i64 0, .int .i64 0, .int .i64 0, .int .i64 0, .string ⟨#[]⟩, .slice none 0 0, .slice none 0 0, .slice none 0 0]], []⟩ 8 (by kernel_rfl) (by kernel_rfl) (by kernel_rfl)
      (x := ([.agg [.lit (.int .i64 0), .lit (.bool false), .agg [.lit (.bool false), .lit (.string []), .lit (.int .i64 0)], .agg [.lit (.int .i64 0), .lit (.int .i64 0), .lit (.int .i64 0), .lit (.int .i64 0)], .lit (.string []), .nil, .nil, .nil], .agg [.lit (.int .i64 0), .lit (.bool false), .agg [.lit (.bool false), .lit (.string []), .lit (.int .i64 0)], .agg [.lit (.int .i64 0), .lit (.int .i64 0), .lit (.int .i64 0), .lit (.int .i64 0)], .lit (.string []), .nil, .nil, .nil]], [], [])) (by kernel_rfl) rfl (by kernel_rfl)) ?_
  intro W base args ds gs before hval hW _ hk _
  have hW' := hW
  obtain ⟨p, q, hA0, hV, rfl, hfz, hnd⟩ := hW
  have hA : DataW.TrodAll enc Try.prog W 0 (fun _ => true) true Try.f16.params.toList args.toList ds p := hA0
  rw [Try.params16] at hA hval
  obtain ⟨v0, vs0, d0, ds0, p0, q0, hargs, rfl, rfl, h0, r0⟩ := trodAll_cons hA
  obtain ⟨v1, vs1, d1, ds1, p1, q1, rfl, rfl, rfl, h1, r1⟩ := trodAll_cons r0
  obtain ⟨rfl, rfl, rfl⟩ := trodAll_nil r1
  obtain rfl : args = #[v0, v1] := by cases args; simp_all
  obtain ⟨rfl, rfl⟩ := trodVars_none hV
  have k0 := h0
  have lt0 : ∀ x ∈ p0, x.block < W.heap.size := by obtain ⟨m, hm⟩ := k0; exact DataW.trod_lt m _ _ _ hm
  obtain ⟨m0, t0⟩ := h0
  have k1 := h1
  have lt1 : ∀ x ∈ p1, x.block < W.heap.size := by obtain ⟨m, hm⟩ := k1; exact DataW.trod_lt m _ _ _ hm
  obtain ⟨m1, t1⟩ := h1
  have hbulk : Rows.uptoBulk d0 + Rows.uptoBulk d1 ≤ 1048576 := by
    have := of_decide_eq_true hk
    simp only [List.append_nil, Rows.uptoBulkAll] at this
    omega
  obtain ⟨u0, hu0, hz0⟩ := rd33 _ _ _ t0
  obtain ⟨r0, rfl, hr0⟩ : ∃ r, v0 = .agg r.toArray ∧ Val W u0 r := ⟨_, agg13 hu0.len, hu0⟩
  have hf0 : Fine u0 := fun d => szd_mono (by show Rows.uptoBulk d0 ≤ 1048576; omega) d _ (hz0 d)
  obtain ⟨u1, hu1, hz1⟩ := rd33 _ _ _ t1
  obtain ⟨r1, rfl, hr1⟩ : ∃ r, v1 = .agg r.toArray ∧ Val W u1 r := ⟨_, agg13 hu1.len, hu1⟩
  have hf1 : Fine u1 := fun d => szd_mono (by show Rows.uptoBulk d1 ≤ 1048576; omega) d _ (hz1 d)
  clear hA0
  refine Calls.mono (c16 u0 u1 _ _ W hr0 hr1 hf0 hf1) fun e W' ⟨r, he, bel, b, hr, hb⟩ => ?_
  subst hr hb he
  exact ⟨_, rfl, _, _, _, [], _, [], hW', trodAll_mk1 (shut_bool Try.underlying4 _), (trodAll_cons_mk (Below.trod laidOut (by kernel_rfl) (of_decide_eq_true (by kernel_rfl)) k0 bel lt0) (trodAll_cons_mk (Below.trod laidOut (by kernel_rfl) (of_decide_eq_true (by kernel_rfl)) k1 bel lt1) trodAll_mk0)), rfl, bel.frame _, fun h => by cases h⟩

theorem over : Rows.diffBackUptoRow.holds Try.pinned (Rows.OpenSpec.upto Rows.diffBackSpec) :=
  OpenClaim.holds_of_cond 16 Try.f16 rfl rfl rfl rfl rfl rfl rfl ⟨rfl, rfl, rfl, rfl, rfl⟩ rfl rfl rfl rfl rfl (by kernel_rfl) Try.func16 (by kernel_rfl)
    (of_decide_eq_true (by kernel_rfl)) (by unfold Func.isWrapper; first | (rw [if_pos (by decide +kernel)]; kernel_rfl) | (rw [if_neg (by decide +kernel)]; exact ⟨rfl, rfl⟩))
    (fun os started H enc _ F => lifted os started H enc F)

theorem proved : Rows.DiffBackUptoSaid := over
end Go.Proofs.Ytmkihcdcgkdilaa.diffBack
end
