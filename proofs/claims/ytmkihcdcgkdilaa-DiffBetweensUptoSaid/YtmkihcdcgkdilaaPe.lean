/-
  Contract: differ of the reference.
-/
import Derived.Test.YtmkihcdcgkdilaaPd
namespace Go.Proofs.Ytmkihcdcgkdilaa
open Go Go.Dk Go.RowKit
set_option linter.unusedSimpArgs false
set_option linter.unusedVariables false
attribute [local irreducible] Go.wpList Go.Code.wp Go.bodyPost Go.wpStill Go.wpQuiet
theorem src_rowk {B e k n : Nat} {w : World} {v : Value} {xs : List Value} (row : w.ownsRow B e k v n xs) : Src w v n xs := by
  rcases row.2 with ⟨rfl, h0⟩ | ⟨g, cap, cur, rfl, hb, hg, hle, _, hcs, htake⟩
  · subst h0
    exact .inl ⟨rfl, rfl, List.eq_nil_of_length_eq_zero (by have := row.1; omega)⟩
  · refine .inr ⟨⟨g, 0, none⟩, cap, rfl, fun j u hj => ?_⟩
    rw [add_addr, cell_of_row w g (0 + j) cur _ _ hg]
    rw [← htake] at hj
    rw [List.getElem?_take] at hj
    split at hj
    · simpa using hj
    · cases hj
theorem lalike_not {a b : V} (h : lalike a b = true) : alike a b = false := by
  unfold lalike at h
  unfold alike
  simp only [Bool.and_eq_true, beq_iff_eq] at h
  rw [h.1.1]; rfl
/-- contents that lie in A or are new, not in the slice's own block -/
def Ca (A : Nat → Prop) (w0 w : World) (x : Value) (b : Nat) : Prop := (A b ∨ Fr w0 w b) ∧ x.ownBlock ≠ some b
theorem Ca.d0 {A : Nat → Prop} {w0 w : World} {x : Value} (hA : ∀ b, A b → b < w0.heap.size) (hs : w0.heap.size ≤ w.heap.size) : ∀ b, Ca A w0 w x b → D0 w x b := fun b h => ⟨h.1.elim (fun h => Nat.lt_of_lt_of_le (hA b h) hs) (fun h => h.2), h.2⟩
theorem Ca.next {A : Nat → Prop} {w0 w w' : World} {x y : Value} (hA : ∀ b, A b → b < w0.heap.size) (h0 : w0.heap.size ≤ w.heap.size) (hs : w.heap.size ≤ w'.heap.size) (hy : Nx w x y) : ∀ b, Ca A w0 w x b → Ca A w0 w' y b := fun b h =>
  ⟨h.1.imp id (fun h => ⟨h.1, Nat.lt_of_lt_of_le h.2 hs⟩), fun e => (hy b e).elim h.2 fun h' => by
    have := (Ca.d0 hA h0 b h).1; omega⟩
/-- what a callee has made, joined -/
theorem Ca.join {A : Nat → Prop} {w0 wj wk w' : World} {x y : Value} {m : Nat} (hA : ∀ b, A b → b < w0.heap.size) (h0 : w0.heap.size ≤ wj.heap.size) (hs : wk.heap.size ≤ w'.heap.size) (hj : wj.heap.size ≤ wk.heap.size) (hx : ∀ q, x.ownBlock = some q → q < wj.heap.size) (hm : wk.heap.size ≤ m) (hy : ∀ q, y.ownBlock = some q → x.ownBlock = some q ∨ m ≤ q) : ∀ b, (A b ∨ Fr w0 wj b) ∧ x.ownBlock ≠ some b ∨ Fr wj wk b → Ca A w0 w' y b := by
  rintro b (⟨h, h2⟩ | h)
  · refine ⟨h.imp id (fun h => ⟨h.1, by have := h.2; omega⟩), fun e => (hy b e).elim h2 fun h' => ?_⟩
    rcases h with h | h
    · have := hA b h; omega
    · have := h.2; omega
  · refine ⟨.inr ⟨by have := h.1; omega, by have := h.2; omega⟩, fun e => (hy b e).elim (fun h' => ?_) fun h' => ?_⟩
    · have := hx b h'; have := h.1; omega
    · have := h.2; omega

set_option maxRecDepth 10000 in
set_option maxHeartbeats 6400000 in
theorem c59 (E : V → V → Bool) (hE : ∀ x y, E x y = true ↔ canon x = canon y) : ∀ (d : Nat) (p : List Stp) (ps : Value) (a b : V) (ra rb : List Value) (A : Nat → Prop) (w0 : World), (∀ b, A b → b < w0.heap.size) → PthA A w0 ps p → RepV A w0 a ra → RepV A w0 b rb → okd d a → okd d b → Fine a → Fine b → p.length + d ≤ 100 → d ≤ 48 → (dfr E d p a b).length ≤ 1048576 →
    Fc Try.prog 59 [ps, .agg ra.toArray, .agg rb.toArray] w0 (fun x w' => ∃ cs' : List Value, w'.ownsRow w0.heap.size 24 1 x (dfr E d p a b).length cs' ∧ PthsC (Ca A w0 w' x) w' (dfr E d p a b) cs') := by
  intro d
  induction d with
  | zero => intro p ps a b ra rb A w0 hA hpp hva hvb hoa; exact hoa.elim
  | succ d ih =>
  intro p ps a b ra rb A w0 hA hpp hva hvb hoa hob hfa1 hfb hpd hd48 hnb
  obtain ⟨abs, als, afs, rfl, _, hal0, haf0⟩ := id (RepV.open hva)
  obtain ⟨bbs, bls, bfs, rfl, _, hbl0, hbf0⟩ := id (RepV.open hvb)
  obtain ⟨lb, lo, hlsl, hlreps⟩ := hal0
  obtain ⟨la, lc, rfl, hla⟩ := hlsl.form
  have hlget := fun i x h => RepLs.get a.list lo i x hlreps h
  obtain ⟨mb, mo, hmsl, hmreps⟩ := hbl0
  obtain ⟨ma, mc, rfl, hma⟩ := hmsl.form
  have hmget := fun i x h => RepLs.get b.list mo i x hmreps h
  obtain ⟨fb, fo, hfsl, hfreps⟩ := haf0
  obtain ⟨fa, fc, rfl, hfa⟩ := hfsl.form
  have hfget := fun i kv h => RepFs.get a.fields fo i kv hfreps h
  obtain ⟨gb, go, hgsl, hgreps⟩ := hbf0
  obtain ⟨ga, gc, rfl, hga⟩ := hgsl.form
  have hall := hfa1.self.2.2.2.1
  have hafl := hfa1.self.2.2.2.2
  have hbfl := hfb.self.2.2.2.2
  refine ret_enter Try.func59 rfl Try.ntmps59 rfl ?_
  have cx := Ctx.start w0
  refine wp_seq ?_
  refine wp_region_lit ?_
  refine s_box cx rfl rfl rfl rfl rfl ?_; intro b4 w cx hb4 hw4
  refine s_box cx rfl rfl rfl rfl rfl ?_; intro b5 w cx hb5 hw5
  refine s_val rfl rfl (v_assign rfl rfl) ?_
  refine wpList_nil ?_
  refine wp_seq ?_
  refine wp_seq ?_
  refine wp_region_lit ?_
  refine s_val rfl rfl (v_load rfl rfl Try.underlying33 rfl sz33 (cx.row 1 rfl) rfl) ?_
  refine s_val rfl rfl (v_load rfl rfl Try.underlying33 rfl sz33 (cx.row 0 rfl) rfl) ?_
  refine s_fnB cx (c27 a b _ _ _ hfa1 hfb (RepV.mono (fun b hb => Nat.lt_of_lt_of_le (hA b hb) cx.ext.size) (fun b hb => cx.ext.block b (hA b hb)) _ _ hva) (RepV.mono (fun b hb => Nat.lt_of_lt_of_le (hA b hb) cx.ext.size) (fun b hb => cx.ext.block b (hA b hb)) _ _ hvb)) Try.func27 rfl rfl rfl rfl rfl rfl ?_; intro q16 w cx hw16 hp16
  refine wpList_nil ?_
  refine c_split rfl (fun hc16 => ?_) (fun hc16 => ?_)
  · skip
    skip
    refine wp_seq ?_
    refine wp_region_lit ?_
    refine s_val rfl rfl (v_assign rfl rfl) ?_
    refine wpList_nil ?_
    refine wp_ret ?_
    refine ret_tmp Try.results59 rfl ?_
    have hd0 : dfr E (d + 1) p a b = [] := by simp only [dfr]; rw [if_pos ((hE a b).2 (hp16.1 hc16))]
    rw [hd0]
    exact ⟨cx.ext, [], World.ownsRow_nil _ _ _ _, trivial⟩
  · skip
    skip
    have hne : ¬ canon a = canon b := fun h => by rw [hp16.2 h] at hc16; cases hc16
    refine wp_skip ?_
    refine wp_seq ?_
    refine wp_region_lit ?_
    replace cx := cx.nilRow 24 1
    refine s_val rfl rfl (v_assign rfl rfl) ?_
    refine wpList_nil ?_
    refine wp_seq ?_
    refine wp_seq ?_
    refine wp_region_lit ?_
    refine s_val rfl rfl (v_fa fa33_0 rfl rfl) ?_
    refine s_val rfl rfl (v_load1 rfl rfl Try.underlying3 rfl (cx.cell 1 rfl rfl)) ?_
    refine s_val rfl rfl (v_cmp rfl rfl rfl rfl) ?_
    refine s_val rfl rfl (v_move rfl rfl) ?_
    refine s_gval rfl rfl rfl (by first | exact w_tt rfl | exact w_gt rfl) (fun hc => v_fa fa33_0 rfl (by first | exact gve hc rfl | exact gve (and_l hc) rfl | exact gve (and_l (and_l hc)) rfl | rfl)) ?_
    refine s_gval rfl rfl rfl (by first | exact w_tt rfl | exact w_gt rfl) (fun hc => v_load1 rfl (by first | exact gve hc rfl | exact gve (and_l hc) rfl | exact gve (and_l (and_l hc)) rfl | rfl) Try.underlying3 rfl (cx.cell 0 rfl rfl)) ?_
    refine s_gval rfl rfl rfl (by first | exact w_tt rfl | exact w_gt rfl) (fun hc => v_cmp rfl (by first | exact gve hc rfl | exact gve (and_l hc) rfl | exact gve (and_l (and_l hc)) rfl | rfl) rfl rfl) ?_
    refine s_val rfl rfl (v_and rfl rfl rfl rfl) ?_
    refine s_val rfl rfl (v_move rfl rfl) ?_
    refine s_gval rfl rfl rfl (by first | exact w_tt rfl | exact w_gt rfl) (fun hc => v_fa fa33_6 rfl (by first | exact gve hc rfl | exact gve (and_l hc) rfl | exact gve (and_l (and_l hc)) rfl | rfl)) ?_
    refine s_gval rfl rfl rfl (by first | exact w_tt rfl | exact w_gt rfl) (fun hc => v_load1 rfl (by first | exact gve hc rfl | exact gve (and_l hc) rfl | exact gve (and_l (and_l hc)) rfl | rfl) Try.underlying30 rfl (cx.cell 1 rfl rfl)) ?_
    refine s_gval rfl rfl rfl (by first | exact w_tt rfl | exact w_gt rfl) (fun hc => v_lenSlice rfl (by first | exact gve hc rfl | exact gve (and_l hc) rfl | exact gve (and_l (and_l hc)) rfl | rfl) Try.underlying30) ?_
    refine s_gval rfl rfl rfl (by first | exact w_tt rfl | exact w_gt rfl) (fun hc => v_fa fa33_6 rfl (by first | exact gve hc rfl | exact gve (and_l hc) rfl | exact gve (and_l (and_l hc)) rfl | rfl)) ?_
    refine s_gval rfl rfl rfl (by first | exact w_tt rfl | exact w_gt rfl) (fun hc => v_load1 rfl (by first | exact gve hc rfl | exact gve (and_l hc) rfl | exact gve (and_l (and_l hc)) rfl | rfl) Try.underlying30 rfl (cx.cell 0 rfl rfl)) ?_
    refine s_gval rfl rfl rfl (by first | exact w_tt rfl | exact w_gt rfl) (fun hc => v_lenSlice rfl (by first | exact gve hc rfl | exact gve (and_l hc) rfl | exact gve (and_l (and_l hc)) rfl | rfl) Try.underlying30) ?_
    refine s_gval rfl rfl rfl (by first | exact w_tt rfl | exact w_gt rfl) (fun hc => v_cmp rfl (by first | exact gve hc rfl | exact gve (and_l hc) rfl | exact gve (and_l (and_l hc)) rfl | rfl) (by first | exact gve hc rfl | exact gve (and_l hc) rfl | exact gve (and_l (and_l hc)) rfl | rfl) rfl) ?_
    refine s_val rfl rfl (v_and rfl rfl rfl rfl) ?_
    refine wpList_nil ?_
    refine c_split rfl (fun hc33 => ?_) (fun hc33 => ?_)
    · skip
      skip
      have hll : lalike a b = true := hc33
      have hdf : dfr E (d + 1) p a b = (List.range a.list.length).flatMap (fun i : Nat => dfr E d (p ++ [idxS i]) (a.list.getD i nulV) (b.list.getD i nulV)) := by
        simp only [dfr]; rw [if_neg (fun h => hne ((hE a b).1 h)), if_neg (by rw [lalike_not hll]; simp), if_pos hll]
      rw [hdf] at hnb
      have hlen : a.list.length = b.list.length := by
        unfold lalike at hll
        simp only [Bool.and_eq_true, beq_iff_eq] at hll
        omega
      refine wp_seq ?_
      refine wp_seq ?_
      refine wp_region_lit ?_
      refine s_val rfl rfl (v_assign rfl rfl) ?_
      refine wpList_nil ?_
      refine wp_block ?_
      refine w_loop (fun k f w1 => ∃ (i : Nat) (x : Value) (cs' : List Value), k + i = a.list.length ∧ f 0 = ps ∧ f 4 = .pointer (some ⟨b4, 0, none⟩) ∧ f 5 = .pointer (some ⟨b5, 0, none⟩) ∧ f 7 = x ∧ f 8 = .int .i64 i ∧ Cxr w0 w1 ((b5, .cells (vrow b.sc bbs (.slice ma b.list.length mc) (.slice ga b.fields.length gc)).toArray 33) :: (b4, .cells (vrow a.sc abs (.slice la a.list.length lc) (.slice fa a.fields.length fc)).toArray 33) :: []) [⟨24, 1, x, ((List.range i).flatMap (fun i : Nat => dfr E d (p ++ [idxS i]) (a.list.getD i nulV) (b.list.getD i nulV))).length, cs'⟩] ∧ PthsC (Ca A w0 w1 x) w1 ((List.range i).flatMap (fun i : Nat => dfr E d (p ++ [idxS i]) (a.list.getD i nulV) (b.list.getD i nulV))) cs') (a.list.length) ?_ ?_
      · skip
        exact ⟨0, _, [], by omega, rfl, rfl, rfl, rfl, rfl, cx, trivial⟩
      intro gk6 f w hJ
      obtain ⟨i, x, cs', hki, hs0, hs4, hs5, hs7, hs8, cx, hcs⟩ := hJ
      refine wp_seq ?_
      refine wp_seq ?_
      refine wp_region_lit ?_
      refine s_val rfl rfl (v_move rfl hs8) ?_
      refine s_val rfl rfl (v_fa fa33_6 rfl hs4) ?_
      refine s_val rfl rfl (v_load1 rfl rfl Try.underlying30 rfl (cx.cell 1 rfl rfl)) ?_
      refine s_val rfl rfl (v_lenSlice rfl rfl Try.underlying30) ?_
      refine s_val rfl rfl (v_cmp rfl rfl rfl rfl) ?_
      refine wpList_nil ?_
      refine c_split rfl (fun hc38 => ?_) (fun hc38 => ?_)
      · skip
        try simp only [Bool.and_eq_true, Bool.or_eq_true, Bool.and_eq_false_iff, Bool.or_eq_false_iff, Bool.not_eq_true', Bool.not_eq_false', decide_eq_true_eq, decide_eq_false_iff_not, beq_iff_eq, beq_eq_false_iff_ne, bne_iff_ne, bne_eq_false_iff_eq, ne_eq, Classical.not_not] at hc38
        obtain rfl := hla (by omega)
        obtain rfl := hma (by omega)
        have hge1 : a.list[i]? = some a.list[i] := List.getElem?_eq_getElem (by omega)
        have hge2 : b.list[i]? = some b.list[i] := List.getElem?_eq_getElem (by omega)
        obtain ⟨r1, hr1, hrv1⟩ := hlget i _ hge1
        obtain ⟨r2, hr2, hrv2⟩ := hmget i _ hge2
        have hrA1 := hlsl.inA (by omega)
        have hrA2 := hmsl.inA (by omega)
        have hQ := Kp.d0 w x
        obtain ⟨wk, rfl⟩ : ∃ y, y = w := ⟨_, rfl⟩
        have hk0 := cx.ext.size
        have hbl := rg_len (g := (fun i : Nat => dfr E d (p ++ [idxS i]) (a.list.getD i nulV) (b.list.getD i nulV))) (show i < a.list.length by omega)
        have hgd1 : a.list.getD i nulV = a.list[i] := by rw [List.getD, hge1]; rfl
        have hgd2 : b.list.getD i nulV = b.list[i] := by rw [List.getD, hge2]; rfl
        simp only [hgd1, hgd2] at hbl
        refine wp_skip ?_
        refine wp_seq ?_
        refine wp_block ?_
        refine w_ord cx (cx.pick2 1 0 rfl rfl rfl) mixed [(0, 41), (1, 42), (2, 43), (4, 45), (5, 46), (6, 47), (7, 48), (8, 49), (9, 50), (10, 51), (11, 52), (12, 53), (13, 54)] #[true, true, true, false, true, true, true, true, true, true, true, true, true, true, false, false, false] (by kernel_rfl) (by kernel_rfl) (by kernel_rfl) (by kernel_rfl) ?_
        refine pu_one rfl (wnt_none rfl) (fun w cx => v_move rfl hs7) ?_
        refine pu_one rfl (wnt_none rfl) (fun w cx => v_move rfl hs0) ?_
        refine pu_one rfl (wnt_none rfl) (fun w cx => v_move rfl hs8) ?_
        refine pu_one rfl (wnt_none rfl) (fun w cx => v_fa fa33_6 rfl hs4) ?_
        refine pu_one rfl (wnt_none rfl) (fun w cx => v_load1 rfl rfl Try.underlying30 rfl (cx.cell 0 rfl rfl)) ?_
        refine pu_one rfl (wnt_none rfl) (fun w cx => v_move rfl hs8) ?_
        refine pu_one rfl (wnt_none rfl) (fun w cx => v_ia Try.underlying30 sz33 rfl rfl rfl (by omega) (by omega)) ?_
        refine pu_one rfl (wnt_none rfl) (fun w cx => v_load rfl rfl Try.underlying33 rfl sz33 (hr1.keep (cx.ext.block _ (hA _ hrA1))) hrv1.len) ?_
        refine pu_one rfl (wnt_none rfl) (fun w cx => v_fa fa33_6 rfl hs5) ?_
        refine pu_one rfl (wnt_none rfl) (fun w cx => v_load1 rfl rfl Try.underlying30 rfl (cx.cell 1 rfl rfl)) ?_
        refine pu_one rfl (wnt_none rfl) (fun w cx => v_move rfl hs8) ?_
        refine pu_one rfl (wnt_none rfl) (fun w cx => v_ia Try.underlying30 sz33 rfl rfl rfl (by omega) (by omega)) ?_
        refine pu_one rfl (wnt_none rfl) (fun w cx => v_load rfl rfl Try.underlying33 rfl sz33 (hr2.keep (cx.ext.block _ (hA _ hrA2))) hrv2.len) ?_
        refine pu_nil ?_; intro w cx hwD8
        replace hQ := hQ.below hwD8
        refine x_one (i := 3) (by kernel_rfl) rfl ?_
        have cx44b := cx
        refine s_fn cx (c85 i A p ps _ (fun b hb => Nat.lt_of_lt_of_le (hA b hb) cx.ext.size) (hpp.mono (fun _ h => h) (fun b hb => cx.ext.block b (hA b hb))) (by omega)) Try.func85 rfl rfl rfl rfl rfl rfl ?_; intro q44 w cx hw44 hp44
        replace hQ := hQ.below hw44
        refine x_next ⟨.inl (cx.pick2 1 0 rfl rfl rfl), ?_⟩
        refine x_one (i := 14) (by kernel_rfl) rfl ?_
        have cxc := cx
        obtain ⟨wj, hwj⟩ : ∃ y, y = w := ⟨_, rfl⟩
        subst hwj
        have hk1 := cx.ext.size
        refine s_fn cx (ih (p ++ [idxS i]) _ a.list[i] b.list[i] _ _ (fun b => (A b ∨ Fr w0 wj b) ∧ x.ownBlock ≠ some b) _ (fun b hb => hb.1.elim (fun h => Nat.lt_of_lt_of_le (hA b h) hk1) (fun h => h.2)) (hp44.mono (fun b hb => ⟨.inr ⟨Nat.le_trans cx44b.ext.size hb.1, hb.2⟩, fun e => by have := (Made_lt cx44b.head b e).2; have := hb.1; omega⟩) (fun _ _ => rfl)) (RepV.mono (fun b hb => ⟨.inl hb, fun e => by have := (Made_lt cx.head b e).1; have := hA b hb; omega⟩) (fun b hb => cx.ext.block b (hA b hb)) _ _ hrv1) (RepV.mono (fun b hb => ⟨.inl hb, fun e => by have := (Made_lt cx.head b e).1; have := hA b hb; omega⟩) (fun b hb => cx.ext.block b (hA b hb)) _ _ hrv2) (hoa.2.2.1 _ (List.getElem_mem _)) (hob.2.2.1 _ (List.getElem_mem _)) (hfa1.elem (List.getElem_mem _)) (hfb.elem (List.getElem_mem _)) (by rw [List.length_append, List.length_singleton]; omega) (by omega) (by omega)) Try.func59 rfl rfl rfl rfl rfl rfl ?_; intro q55 w cx hw55 hp55
        replace hQ := hQ.below hw55
        obtain ⟨cs2, hrow2, hps2⟩ := hp55
        obtain ⟨wd, hwd⟩ : ∃ y, y = w := ⟨_, rfl⟩
        subst hwd
        have hlen2 := (PthsC.len _ _ hps2)
        have hm0 := hQ.sz
        have hG : dfr E d (p ++ [idxS i]) (a.list.getD i nulV) (b.list.getD i nulV) = dfr E d (p ++ [idxS i]) a.list[i] b.list[i] := by simp only [hgd1, hgd2]
        refine x_next ⟨.inl (cx.pick2 1 0 rfl rfl rfl), ?_⟩
        refine x_one (i := 15) (by kernel_rfl) rfl ?_
        refine s_appendS cx ei24 Try.underlying46 rfl rfl rfl rfl rfl (src_rowk hrow2) (by rw [hlen2.1]; omega) hlen2.2 (by omega) ?_; intro v56 w cx hgr56 hnw56
        replace hQ := hQ.d0own hgr56 rfl (Nx.self _ _)
        have hKj : Kp (fun b => (A b ∨ Fr w0 wj b) ∧ x.ownBlock ≠ some b ∨ Fr wj wd b) wd w := (Kp.refl (fun b hb => hb.elim (fun h => h.1.elim (fun h => by have := hA b h; have := hw55.size; omega) (fun h => by have := h.2; have := hw55.size; omega)) (fun h => h.2))).grown hgr56 (fun b hb e => hb.elim (fun h => h.2 e) (fun h => by have := (Made_lt cxc.head b e).2; have := h.1; omega))
        have hj1 := PthsC.mono (A' := Ca A w0 w v56) (fun b hb => Ca.join hA hk1 hKj.sz hw55.size (fun q hq => (Made_lt cxc.head q hq).2) (Nat.le_refl _) hnw56 b (hb.1.imp id id)) (fun b hb => hKj.kp b (hb.1.imp id id)) _ _ hps2
        have hNw : Nx wk x v56 := fun q hq => (hnw56 q hq).imp id (fun h => Nat.le_trans hm0 h)
        have hj0 := PthsC.mono (A' := Ca A w0 w v56) (fun b hb => Ca.next hA hk0 hQ.sz hNw b hb) (fun b hb => hQ.kp b (Ca.d0 hA hk0 b hb)) _ _ hcs
        refine x_next ⟨.inr (by kernel_rfl), ?_⟩
        refine x_one (i := 16) (by kernel_rfl) rfl ?_
        refine s_val rfl rfl (v_assign rfl rfl) ?_
        refine x_next ⟨.inr (by kernel_rfl), ?_⟩
        refine x_done (by kernel_rfl) ?_
        refine wp_region_lit ?_
        refine s_val rfl rfl (v_move rfl hs8) ?_
        refine s_val rfl rfl (v_add rfl rfl rfl (by omega) (by omega)) ?_
        refine s_val rfl rfl (v_assign rfl rfl) ?_
        refine wpList_nil ?_
        refine ⟨gk6 - 1, _, by omega, rfl, i + 1, v56, cs' ++ cs2, by omega, hs0, hs4, hs5, rfl, rfl, ?_, ?_⟩
        · rw [rg_take, List.length_append, hG]
          exact cx
        · rw [rg_take, hG]
          exact PthsC.append _ _ _ _ hj0 hj1
      · skip
        try simp only [Bool.and_eq_true, Bool.or_eq_true, Bool.and_eq_false_iff, Bool.or_eq_false_iff, Bool.not_eq_true', Bool.not_eq_false', decide_eq_true_eq, decide_eq_false_iff_not, beq_iff_eq, beq_eq_false_iff_ne, bne_iff_ne, bne_eq_false_iff_eq, ne_eq, Classical.not_not] at hc38
        refine wp_exit ?_
        refine wp_seq ?_
        refine wp_region_lit ?_
        refine s_val rfl rfl (v_move rfl hs7) ?_
        refine s_val rfl rfl (v_assign rfl rfl) ?_
        refine wpList_nil ?_
        refine wp_ret ?_
        refine ret_tmp Try.results59 rfl ?_
        have hi : i = a.list.length := by omega
        subst hi
        rw [hdf]
        exact ⟨cx.ext, cs', cx.head, hcs⟩
    · skip
      skip
      have hll : lalike a b = false := hc33
      refine wp_skip ?_
      refine wp_seq ?_
      refine wp_region_lit ?_
      refine s_val rfl rfl (v_fa fa33_0 rfl rfl) ?_
      refine s_val rfl rfl (v_load1 rfl rfl Try.underlying3 rfl (cx.cell 1 rfl rfl)) ?_
      refine s_val rfl rfl (v_cmp rfl rfl rfl rfl) ?_
      refine s_val rfl rfl (v_move rfl rfl) ?_
      refine s_gval rfl rfl rfl (by first | exact w_tt rfl | exact w_gt rfl) (fun hc => v_fa fa33_0 rfl (by first | exact gve hc rfl | exact gve (and_l hc) rfl | exact gve (and_l (and_l hc)) rfl | rfl)) ?_
      refine s_gval rfl rfl rfl (by first | exact w_tt rfl | exact w_gt rfl) (fun hc => v_load1 rfl (by first | exact gve hc rfl | exact gve (and_l hc) rfl | exact gve (and_l (and_l hc)) rfl | rfl) Try.underlying3 rfl (cx.cell 0 rfl rfl)) ?_
      refine s_gval rfl rfl rfl (by first | exact w_tt rfl | exact w_gt rfl) (fun hc => v_cmp rfl (by first | exact gve hc rfl | exact gve (and_l hc) rfl | exact gve (and_l (and_l hc)) rfl | rfl) rfl rfl) ?_
      refine s_val rfl rfl (v_and rfl rfl rfl rfl) ?_
      refine s_val rfl rfl (v_move rfl rfl) ?_
      refine s_gval rfl rfl rfl (by first | exact w_tt rfl | exact w_gt rfl) (fun hc => v_fa fa33_7 rfl (by first | exact gve hc rfl | exact gve (and_l hc) rfl | exact gve (and_l (and_l hc)) rfl | rfl)) ?_
      refine s_gval rfl rfl rfl (by first | exact w_tt rfl | exact w_gt rfl) (fun hc => v_load1 rfl (by first | exact gve hc rfl | exact gve (and_l hc) rfl | exact gve (and_l (and_l hc)) rfl | rfl) Try.underlying31 rfl (cx.cell 1 rfl rfl)) ?_
      refine s_gval rfl rfl rfl (by first | exact w_tt rfl | exact w_gt rfl) (fun hc => v_lenSlice rfl (by first | exact gve hc rfl | exact gve (and_l hc) rfl | exact gve (and_l (and_l hc)) rfl | rfl) Try.underlying31) ?_
      refine s_gval rfl rfl rfl (by first | exact w_tt rfl | exact w_gt rfl) (fun hc => v_fa fa33_7 rfl (by first | exact gve hc rfl | exact gve (and_l hc) rfl | exact gve (and_l (and_l hc)) rfl | rfl)) ?_
      refine s_gval rfl rfl rfl (by first | exact w_tt rfl | exact w_gt rfl) (fun hc => v_load1 rfl (by first | exact gve hc rfl | exact gve (and_l hc) rfl | exact gve (and_l (and_l hc)) rfl | rfl) Try.underlying31 rfl (cx.cell 0 rfl rfl)) ?_
      refine s_gval rfl rfl rfl (by first | exact w_tt rfl | exact w_gt rfl) (fun hc => v_lenSlice rfl (by first | exact gve hc rfl | exact gve (and_l hc) rfl | exact gve (and_l (and_l hc)) rfl | rfl) Try.underlying31) ?_
      refine s_gval rfl rfl rfl (by first | exact w_tt rfl | exact w_gt rfl) (fun hc => v_cmp rfl (by first | exact gve hc rfl | exact gve (and_l hc) rfl | exact gve (and_l (and_l hc)) rfl | rfl) (by first | exact gve hc rfl | exact gve (and_l hc) rfl | exact gve (and_l (and_l hc)) rfl | rfl) rfl) ?_
      refine s_val rfl rfl (v_and rfl rfl rfl rfl) ?_
      refine s_val rfl rfl (v_assign rfl rfl) ?_
      refine wpList_nil ?_
      refine wp_seq ?_
      refine wp_seq ?_
      refine wp_region_lit ?_
      refine s_val rfl rfl (v_assign rfl rfl) ?_
      refine wpList_nil ?_
      refine wp_block ?_
      refine w_loop (fun k f w1 => ∃ i : Nat, k + i = a.fields.length ∧ f 0 = ps ∧ f 4 = .pointer (some ⟨b4, 0, none⟩) ∧ f 5 = .pointer (some ⟨b5, 0, none⟩) ∧ f 7 = .slice none 0 0 ∧ f 9 = .bool (a.sc.kind == 7 && b.sc.kind == 7 && (a.fields.length : Int) == (b.fields.length : Int) && (a.fields.take i).all (fun kv => (hasF kv.1 b.fields).isSome)) ∧ f 10 = .int .i64 i ∧ Cxr w0 w1 ((b5, .cells (vrow b.sc bbs (.slice ma b.list.length mc) (.slice ga b.fields.length gc)).toArray 33) :: (b4, .cells (vrow a.sc abs (.slice la a.list.length lc) (.slice fa a.fields.length fc)).toArray 33) :: []) [⟨24, 1, (.slice none 0 0), 0, []⟩]) (a.fields.length) ?_ ?_
      · skip
        exact ⟨0, by omega, rfl, rfl, rfl, rfl, by show Value.bool _ = _; simp, rfl, cx⟩
      intro gk12 f w hJ
      obtain ⟨i, hki, hs0, hs4, hs5, hs7, hs9, hs10, cx⟩ := hJ
      refine wp_seq ?_
      refine wp_seq ?_
      refine wp_region_lit ?_
      refine s_val rfl rfl (v_move rfl hs10) ?_
      refine s_val rfl rfl (v_fa fa33_7 rfl hs4) ?_
      refine s_val rfl rfl (v_load1 rfl rfl Try.underlying31 rfl (cx.cell 1 rfl rfl)) ?_
      refine s_val rfl rfl (v_lenSlice rfl rfl Try.underlying31) ?_
      refine s_val rfl rfl (v_cmp rfl rfl rfl rfl) ?_
      refine s_val rfl rfl (v_move rfl rfl) ?_
      refine s_gval rfl rfl rfl (by first | exact w_tt rfl | exact w_gt rfl) (fun hc => v_move rfl hs9) ?_
      refine s_val rfl rfl (v_and rfl rfl rfl rfl) ?_
      refine wpList_nil ?_
      refine c_split rfl (fun hc82 => ?_) (fun hc82 => ?_)
      · skip
        skip
        rw [Bool.and_eq_true] at hc82
        obtain ⟨hci, hcs9⟩ := hc82
        replace hci := of_decide_eq_true hci
        obtain rfl := hfa (by omega)
        obtain ⟨r, hr, hrv⟩ := hfget i a.fields[i] (List.getElem?_eq_getElem (by omega))
        have hrA := hfsl.inA (by omega)
        refine wp_skip ?_
        refine wp_seq ?_
        refine wp_block ?_
        refine w_ord cx (cx.pick2 1 0 rfl rfl rfl) mixed [(0, 86), (1, 87), (2, 88), (3, 89), (4, 90), (5, 91), (6, 92)] #[true, true, true, true, true, true, true, false, false, false, false, false] (by kernel_rfl) (by kernel_rfl) (by kernel_rfl) (by kernel_rfl) ?_
        refine pu_one rfl (wnt_none rfl) (fun w cx => v_load rfl hs5 Try.underlying33 rfl sz33 (cx.row 1 rfl) rfl) ?_
        refine pu_one rfl (wnt_none rfl) (fun w cx => v_fa fa33_7 rfl hs4) ?_
        refine pu_one rfl (wnt_none rfl) (fun w cx => v_load1 rfl rfl Try.underlying31 rfl (cx.cell 0 rfl rfl)) ?_
        refine pu_one rfl (wnt_none rfl) (fun w cx => v_move rfl hs10) ?_
        refine pu_one rfl (wnt_none rfl) (fun w cx => v_ia Try.underlying31 sz77 rfl rfl rfl (by omega) (by omega)) ?_
        refine pu_one rfl (wnt_none rfl) (fun w cx => v_fa fa77_0 rfl rfl) ?_
        refine pu_one rfl (wnt_none rfl) (fun w cx => v_load1 rfl rfl Try.underlying9 rfl ((hr.keep (cx.ext.block _ (hA _ hrA))).cell 0 rfl)) ?_
        refine pu_nil ?_; intro w cx hwD14
        refine x_one (i := 7) (by kernel_rfl) rfl ?_
        refine s_fn cx (c86 A b _ a.fields[i].1 _ (fun b hb => Nat.lt_of_lt_of_le (hA b hb) cx.ext.size) (RepV.mono (fun _ h => h) (fun b hb => cx.ext.block b (hA b hb)) _ _ hvb) hbfl) Try.func86 rfl rfl rfl rfl rfl rfl ?_; intro q93 w cx hw93 hp93
        obtain ⟨l93, rfl, hm93⟩ := hp93
        refine x_next ⟨.inr (by kernel_rfl), ?_⟩
        refine x_one (i := 8) (by kernel_rfl) rfl ?_
        refine s_val rfl rfl (v_move rfl rfl) ?_
        refine x_next ⟨.inr (by kernel_rfl), ?_⟩
        refine x_two (i := 9) (j := 10) (by kernel_rfl) rfl rfl ?_ ?_
        · skip
          refine s_val rfl rfl (v_extract rfl rfl rfl) ?_
          refine x_next ⟨.inr (by kernel_rfl), ?_⟩
          refine x_one (i := 10) (by kernel_rfl) rfl ?_
          refine s_val rfl rfl (v_extract rfl rfl rfl) ?_
          refine x_next ⟨.inr (by kernel_rfl), ?_⟩
          refine x_one (i := 11) (by kernel_rfl) rfl ?_
          refine s_val rfl rfl (v_assign rfl rfl) ?_
          refine x_next ⟨.inr (by kernel_rfl), ?_⟩
          refine x_done (by kernel_rfl) ?_
          refine wp_region_lit ?_
          refine s_val rfl rfl (v_move rfl hs10) ?_
          refine s_val rfl rfl (v_add rfl rfl rfl (by omega) (by omega)) ?_
          refine s_val rfl rfl (v_assign rfl rfl) ?_
          refine wpList_nil ?_
          refine ⟨gk12 - 1, _, by omega, rfl, i + 1, by omega, hs0, hs4, hs5, hs7, ?_, rfl, cx⟩
          rw [List.take_succ_eq_append_getElem (by omega), List.all_append]
          show Value.bool _ = _
          rw [← Bool.and_assoc, hcs9]
          simp
        · skip
          refine s_val rfl rfl (v_extract rfl rfl rfl) ?_
          refine x_next ⟨.inr (by kernel_rfl), ?_⟩
          refine x_one (i := 9) (by kernel_rfl) rfl ?_
          refine s_val rfl rfl (v_extract rfl rfl rfl) ?_
          refine x_next ⟨.inr (by kernel_rfl), ?_⟩
          refine x_one (i := 11) (by kernel_rfl) rfl ?_
          refine s_val rfl rfl (v_assign rfl rfl) ?_
          refine x_next ⟨.inr (by kernel_rfl), ?_⟩
          refine x_done (by kernel_rfl) ?_
          refine wp_region_lit ?_
          refine s_val rfl rfl (v_move rfl hs10) ?_
          refine s_val rfl rfl (v_add rfl rfl rfl (by omega) (by omega)) ?_
          refine s_val rfl rfl (v_assign rfl rfl) ?_
          refine wpList_nil ?_
          refine ⟨gk12 - 1, _, by omega, rfl, i + 1, by omega, hs0, hs4, hs5, hs7, ?_, rfl, cx⟩
          rw [List.take_succ_eq_append_getElem (by omega), List.all_append]
          show Value.bool _ = _
          rw [← Bool.and_assoc, hcs9]
          simp
      · skip
        skip
        have hsal : (a.sc.kind == 7 && b.sc.kind == 7 && (a.fields.length : Int) == (b.fields.length : Int) && (a.fields.take i).all fun kv => (hasF kv.1 b.fields).isSome) = alike a b := by
          unfold alike
          rcases Bool.and_eq_false_iff.1 hc82 with h | h
          · replace h := of_decide_eq_false h
            rw [List.take_of_length_le (by omega)]
          · rw [h]
            symm
            rw [Bool.eq_false_iff]
            intro h2
            rw [Bool.and_eq_true] at h2
            rw [h2.1, Bool.true_and] at h
            have h3 : (a.fields.take i).all (fun kv => (hasF kv.1 b.fields).isSome) = true := List.all_eq_true.2 fun kv hk => List.all_eq_true.1 h2.2 kv (List.mem_of_mem_take hk)
            rw [h3] at h; cases h
        rw [hsal] at hs9
        refine wp_exit ?_
        refine wp_seq ?_
        refine wp_seq ?_
        refine wp_region_lit ?_
        refine s_val rfl rfl (v_move rfl hs9) ?_
        refine s_val rfl rfl (v_not rfl rfl) ?_
        refine wpList_nil ?_
        refine c_split rfl (fun hc97 => ?_) (fun hc97 => ?_)
        · skip
          skip
          have hal : alike a b = false := by simpa using hc97
          refine wp_seq ?_
          refine wp_region_lit ?_
          refine s_val rfl rfl (v_move rfl hs0) ?_
          obtain ⟨_, _, hslp, _⟩ := id hpp
          obtain ⟨pa, pc, rfl, _⟩ := hslp.form
          refine s_bsl1 cx Try.underlying46 sz24 z24 rfl rfl rfl rfl rfl rfl rfl rfl ?_; intro b99 w cx hb99 hw99
          refine s_val rfl rfl (v_assign rfl rfl) ?_
          refine wpList_nil ?_
          refine wp_ret ?_
          refine ret_tmp Try.results59 rfl ?_
          have hd1 : dfr E (d + 1) p a b = [p] := by
            simp only [dfr]
            rw [if_neg (fun h => hne ((hE a b).1 h)), if_neg (by rw [hal]; simp), if_neg (by rw [hll]; simp)]
          rw [hd1]
          replace cx := cx.toRow (k := 1) (size := 1) rfl (by decide)
          refine ⟨cx.ext, _, cx.head, ?_, trivial⟩
          refine hpp.mono (fun b hb => ⟨.inl hb, fun e => ?_⟩) (fun b hb => cx.ext.block b (hA b hb))
          have := (Made_lt cx.head b e).1; have := hA b hb; omega
        · skip
          skip
          have hal : alike a b = true := by simpa using hc97
          have hdf : dfr E (d + 1) p a b = a.fields.flatMap (fun kv : ByteArray × V => dfr E d (p ++ [keyS kv.1]) kv.2 ((hasF kv.1 b.fields).getD nulV)) := by
            simp only [dfr]; rw [if_neg (fun h => hne ((hE a b).1 h)), if_pos hal]
          rw [hdf] at hnb
          refine wp_skip ?_
          refine wp_seq ?_
          refine wp_seq ?_
          refine wp_region_lit ?_
          refine s_val rfl rfl (v_assign rfl rfl) ?_
          refine wpList_nil ?_
          refine wp_block ?_
          refine w_loop (fun k f w1 => ∃ (i : Nat) (x : Value) (cs' : List Value), k + i = a.fields.length ∧ f 0 = ps ∧ f 4 = .pointer (some ⟨b4, 0, none⟩) ∧ f 5 = .pointer (some ⟨b5, 0, none⟩) ∧ f 7 = x ∧ f 11 = .int .i64 i ∧ Cxr w0 w1 ((b5, .cells (vrow b.sc bbs (.slice ma b.list.length mc) (.slice ga b.fields.length gc)).toArray 33) :: (b4, .cells (vrow a.sc abs (.slice la a.list.length lc) (.slice fa a.fields.length fc)).toArray 33) :: []) [⟨24, 1, x, ((a.fields.take i).flatMap (fun kv : ByteArray × V => dfr E d (p ++ [keyS kv.1]) kv.2 ((hasF kv.1 b.fields).getD nulV))).length, cs'⟩] ∧ PthsC (Ca A w0 w1 x) w1 ((a.fields.take i).flatMap (fun kv : ByteArray × V => dfr E d (p ++ [keyS kv.1]) kv.2 ((hasF kv.1 b.fields).getD nulV))) cs') (a.fields.length) ?_ ?_
          · skip
            exact ⟨0, _, [], by omega, hs0, hs4, hs5, hs7, rfl, cx, trivial⟩
          intro gk18 f w hJ
          obtain ⟨i, x, cs', hki, hs0, hs4, hs5, hs7, hs11, cx, hcs⟩ := hJ
          refine wp_seq ?_
          refine wp_seq ?_
          refine wp_region_lit ?_
          refine s_val rfl rfl (v_move rfl hs11) ?_
          refine s_val rfl rfl (v_fa fa33_7 rfl hs4) ?_
          refine s_val rfl rfl (v_load1 rfl rfl Try.underlying31 rfl (cx.cell 1 rfl rfl)) ?_
          refine s_val rfl rfl (v_lenSlice rfl rfl Try.underlying31) ?_
          refine s_val rfl rfl (v_cmp rfl rfl rfl rfl) ?_
          refine wpList_nil ?_
          refine c_split rfl (fun hc104 => ?_) (fun hc104 => ?_)
          · skip
            try simp only [Bool.and_eq_true, Bool.or_eq_true, Bool.and_eq_false_iff, Bool.or_eq_false_iff, Bool.not_eq_true', Bool.not_eq_false', decide_eq_true_eq, decide_eq_false_iff_not, beq_iff_eq, beq_eq_false_iff_ne, bne_iff_ne, bne_eq_false_iff_eq, ne_eq, Classical.not_not] at hc104
            obtain rfl := hfa (by omega)
            obtain ⟨r, hr, hrv⟩ := hfget i a.fields[i] (List.getElem?_eq_getElem (by omega))
            have hrA := hfsl.inA (by omega)
            have hkm : a.fields[i] ∈ a.fields := List.getElem_mem _
            have hbl := fm_len (g := (fun kv : ByteArray × V => dfr E d (p ++ [keyS kv.1]) kv.2 ((hasF kv.1 b.fields).getD nulV))) (show i < a.fields.length by omega)
            have hsome : (hasF a.fields[i].1 b.fields).isSome = true := by
              unfold alike at hal
              simp only [Bool.and_eq_true, List.all_eq_true] at hal
              exact hal.2 _ hkm
            obtain ⟨u, hu⟩ : ∃ u, hasF a.fields[i].1 b.fields = some u := Option.isSome_iff_exists.1 hsome
            simp only [hu, Option.getD_some] at hbl
            have hQ := Kp.d0 w x
            obtain ⟨wk0, rfl⟩ : ∃ y, y = w := ⟨_, rfl⟩
            have hk00 := cx.ext.size
            refine wp_skip ?_
            refine wp_seq ?_
            refine wp_block ?_
            refine w_cut (fun f w1 => ∃ (b12 : Nat) (l12 : List Value), f 0 = ps ∧ f 4 = .pointer (some ⟨b4, 0, none⟩) ∧ f 5 = .pointer (some ⟨b5, 0, none⟩) ∧ f 7 = x ∧ f 11 = .int .i64 i ∧ f 12 = .pointer (some ⟨b12, 0, none⟩) ∧ RepV A w0 u l12 ∧ Cxr w0 w1 ((b12, .cells l12.toArray 33) :: ((b5, .cells (vrow b.sc bbs (.slice ma b.list.length mc) (.slice ga b.fields.length gc)).toArray 33) :: (b4, .cells (vrow a.sc abs (.slice la a.list.length lc) (.slice (some ⟨fb, fo, none⟩) a.fields.length fc)).toArray 33) :: [])) [⟨24, 1, x, ((a.fields.take i).flatMap (fun kv : ByteArray × V => dfr E d (p ++ [keyS kv.1]) kv.2 ((hasF kv.1 b.fields).getD nulV))).length, cs'⟩] ∧ PthsC (Ca A w0 w1 x) w1 ((a.fields.take i).flatMap (fun kv : ByteArray × V => dfr E d (p ++ [keyS kv.1]) kv.2 ((hasF kv.1 b.fields).getD nulV))) cs') ?_ ?_
            · skip
              refine w_ord cx (cx.pick2 1 0 rfl rfl rfl) mixed [(0, 108), (1, 109), (2, 110), (3, 111), (4, 112), (5, 113), (6, 114)] #[true, true, true, true, true, true, true, false, false, false, false, false, false, false] (by kernel_rfl) (by kernel_rfl) (by kernel_rfl) (by kernel_rfl) ?_
              refine pu_one rfl (wnt_none rfl) (fun w cx => v_load rfl hs5 Try.underlying33 rfl sz33 (cx.row 1 rfl) rfl) ?_
              refine pu_one rfl (wnt_none rfl) (fun w cx => v_fa fa33_7 rfl hs4) ?_
              refine pu_one rfl (wnt_none rfl) (fun w cx => v_load1 rfl rfl Try.underlying31 rfl (cx.cell 0 rfl rfl)) ?_
              refine pu_one rfl (wnt_none rfl) (fun w cx => v_move rfl hs11) ?_
              refine pu_one rfl (wnt_none rfl) (fun w cx => v_ia Try.underlying31 sz77 rfl rfl rfl (by omega) (by omega)) ?_
              refine pu_one rfl (wnt_none rfl) (fun w cx => v_fa fa77_0 rfl rfl) ?_
              refine pu_one rfl (wnt_none rfl) (fun w cx => v_load1 rfl rfl Try.underlying9 rfl ((hr.keep (cx.ext.block _ (hA _ hrA))).cell 0 rfl)) ?_
              refine pu_nil ?_; intro w cx hwD20
              replace hQ := hQ.below hwD20
              refine x_two (i := 7) (j := 11) (by kernel_rfl) rfl rfl ?_ ?_
              · skip
                refine s_fn cx (c86 A b _ a.fields[i].1 _ (fun b hb => Nat.lt_of_lt_of_le (hA b hb) cx.ext.size) (RepV.mono (fun _ h => h) (fun b hb => cx.ext.block b (hA b hb)) _ _ hvb) hbfl) Try.func86 rfl rfl rfl rfl rfl rfl ?_; intro q115 w cx hw115 hp115
                obtain ⟨l115, rfl, hm115⟩ := hp115
                replace hQ := hQ.below hw115
                rw [hu] at hm115
                replace hm115 : RepV A w0 u l115 := RepV.mono (fun _ h => h) (fun b hb => (cx.ext.block b (hA b hb)).symm) _ _ hm115
                refine x_next ⟨.inr (by kernel_rfl), ?_⟩
                refine x_two (i := 8) (j := 11) (by kernel_rfl) rfl rfl ?_ ?_
                · skip
                  refine s_val rfl rfl (v_move rfl rfl) ?_
                  refine x_next ⟨.inr (by kernel_rfl), ?_⟩
                  refine x_three (i := 9) (j := 10) (m := 11) (by kernel_rfl) rfl rfl rfl ?_ ?_ ?_
                  · skip
                    refine s_val rfl rfl (v_extract rfl rfl rfl) ?_
                    refine x_next ⟨.inr (by kernel_rfl), ?_⟩
                    refine x_two (i := 10) (j := 11) (by kernel_rfl) rfl rfl ?_ ?_
                    · skip
                      refine s_val rfl rfl (v_extract rfl rfl rfl) ?_
                      refine x_next ⟨.inr (by kernel_rfl), ?_⟩
                      refine x_one (i := 11) (by kernel_rfl) rfl ?_
                      have hs12 := hQ.sz
                      refine s_alloc cx z33 rfl rfl rfl ?_; intro b12 w cx hb12 hw12
                      replace hQ := hQ.below hw12
                      have hl12 : wk0.heap.size ≤ b12 := Nat.le_trans hs12 (Nat.le_of_eq hb12)
                      refine x_next ⟨.inl (cx.pick2 2 1 rfl rfl rfl), ?_⟩
                      refine x_one (i := 12) (by kernel_rfl) rfl ?_
                      refine s_storeAllG cx 0 rfl rfl rfl rfl rfl rfl (by rw [hm115.len]; exact sz33) (by rw [hm115.len]; rfl) hm115.one ?_; intro w cx hg12
                      replace hQ := hQ.later hg12 hl12
                      refine x_next ⟨.inr (by kernel_rfl), ?_⟩
                      refine x_one (i := 13) (by kernel_rfl) rfl ?_
                      refine s_val rfl rfl (v_assign rfl rfl) ?_
                      refine x_next ⟨.inr (by kernel_rfl), ?_⟩
                      refine x_done (by kernel_rfl) ?_
                      exact ⟨_, rfl, b12, l115, hs0, hs4, hs5, hs7, hs11, rfl, hm115, cx, PthsC.mono (fun b hb => Ca.next hA hk00 hQ.sz (Nx.self _ _) b hb) (fun b hb => hQ.kp b (Ca.d0 hA hk00 b hb)) _ _ hcs⟩
                    · skip
                      have hs12 := hQ.sz
                      refine s_alloc cx z33 rfl rfl rfl ?_; intro b12 w cx hb12 hw12
                      replace hQ := hQ.below hw12
                      have hl12 : wk0.heap.size ≤ b12 := Nat.le_trans hs12 (Nat.le_of_eq hb12)
                      refine x_next ⟨.inl (cx.pick2 2 1 rfl rfl rfl), ?_⟩
                      refine x_two (i := 10) (j := 12) (by kernel_rfl) rfl rfl ?_ ?_
                      · skip
                        refine s_val rfl rfl (v_extract rfl rfl rfl) ?_
                        refine x_next ⟨.inr (by kernel_rfl), ?_⟩
                        refine x_one (i := 12) (by kernel_rfl) rfl ?_
                        refine s_storeAllG cx 0 rfl rfl rfl rfl rfl rfl (by rw [hm115.len]; exact sz33) (by rw [hm115.len]; rfl) hm115.one ?_; intro w cx hg12
                        replace hQ := hQ.later hg12 hl12
                        refine x_next ⟨.inr (by kernel_rfl), ?_⟩
                        refine x_one (i := 13) (by kernel_rfl) rfl ?_
                        refine s_val rfl rfl (v_assign rfl rfl) ?_
                        refine x_next ⟨.inr (by kernel_rfl), ?_⟩
                        refine x_done (by kernel_rfl) ?_
                        exact ⟨_, rfl, b12, l115, hs0, hs4, hs5, hs7, hs11, rfl, hm115, cx, PthsC.mono (fun b hb => Ca.next hA hk00 hQ.sz (Nx.self _ _) b hb) (fun b hb => hQ.kp b (Ca.d0 hA hk00 b hb)) _ _ hcs⟩
                      · skip
                        refine s_storeAllG cx 0 rfl rfl rfl rfl rfl rfl (by rw [hm115.len]; exact sz33) (by rw [hm115.len]; rfl) hm115.one ?_; intro w cx hg12
                        replace hQ := hQ.later hg12 hl12
                        refine x_next ⟨.inr (by kernel_rfl), ?_⟩
                        refine x_one (i := 10) (by kernel_rfl) rfl ?_
                        refine s_val rfl rfl (v_extract rfl rfl rfl) ?_
                        refine x_next ⟨.inr (by kernel_rfl), ?_⟩
                        refine x_one (i := 13) (by kernel_rfl) rfl ?_
                        refine s_val rfl rfl (v_assign rfl rfl) ?_
                        refine x_next ⟨.inr (by kernel_rfl), ?_⟩
                        refine x_done (by kernel_rfl) ?_
                        exact ⟨_, rfl, b12, l115, hs0, hs4, hs5, hs7, hs11, rfl, hm115, cx, PthsC.mono (fun b hb => Ca.next hA hk00 hQ.sz (Nx.self _ _) b hb) (fun b hb => hQ.kp b (Ca.d0 hA hk00 b hb)) _ _ hcs⟩
                  · skip
                    refine s_val rfl rfl (v_extract rfl rfl rfl) ?_
                    refine x_next ⟨.inr (by kernel_rfl), ?_⟩
                    refine x_two (i := 9) (j := 11) (by kernel_rfl) rfl rfl ?_ ?_
                    · skip
                      refine s_val rfl rfl (v_extract rfl rfl rfl) ?_
                      refine x_next ⟨.inr (by kernel_rfl), ?_⟩
                      refine x_one (i := 11) (by kernel_rfl) rfl ?_
                      have hs12 := hQ.sz
                      refine s_alloc cx z33 rfl rfl rfl ?_; intro b12 w cx hb12 hw12
                      replace hQ := hQ.below hw12
                      have hl12 : wk0.heap.size ≤ b12 := Nat.le_trans hs12 (Nat.le_of_eq hb12)
                      refine x_next ⟨.inl (cx.pick2 2 1 rfl rfl rfl), ?_⟩
                      refine x_one (i := 12) (by kernel_rfl) rfl ?_
                      refine s_storeAllG cx 0 rfl rfl rfl rfl rfl rfl (by rw [hm115.len]; exact sz33) (by rw [hm115.len]; rfl) hm115.one ?_; intro w cx hg12
                      replace hQ := hQ.later hg12 hl12
                      refine x_next ⟨.inr (by kernel_rfl), ?_⟩
                      refine x_one (i := 13) (by kernel_rfl) rfl ?_
                      refine s_val rfl rfl (v_assign rfl rfl) ?_
                      refine x_next ⟨.inr (by kernel_rfl), ?_⟩
                      refine x_done (by kernel_rfl) ?_
                      exact ⟨_, rfl, b12, l115, hs0, hs4, hs5, hs7, hs11, rfl, hm115, cx, PthsC.mono (fun b hb => Ca.next hA hk00 hQ.sz (Nx.self _ _) b hb) (fun b hb => hQ.kp b (Ca.d0 hA hk00 b hb)) _ _ hcs⟩
                    · skip
                      have hs12 := hQ.sz
                      refine s_alloc cx z33 rfl rfl rfl ?_; intro b12 w cx hb12 hw12
                      replace hQ := hQ.below hw12
                      have hl12 : wk0.heap.size ≤ b12 := Nat.le_trans hs12 (Nat.le_of_eq hb12)
                      refine x_next ⟨.inl (cx.pick2 2 1 rfl rfl rfl), ?_⟩
                      refine x_one (i := 9) (by kernel_rfl) rfl ?_
                      refine s_val rfl rfl (v_extract rfl rfl rfl) ?_
                      refine x_next ⟨.inr (by kernel_rfl), ?_⟩
                      refine x_one (i := 12) (by kernel_rfl) rfl ?_
                      refine s_storeAllG cx 0 rfl rfl rfl rfl rfl rfl (by rw [hm115.len]; exact sz33) (by rw [hm115.len]; rfl) hm115.one ?_; intro w cx hg12
                      replace hQ := hQ.later hg12 hl12
                      refine x_next ⟨.inr (by kernel_rfl), ?_⟩
                      refine x_one (i := 13) (by kernel_rfl) rfl ?_
                      refine s_val rfl rfl (v_assign rfl rfl) ?_
                      refine x_next ⟨.inr (by kernel_rfl), ?_⟩
                      refine x_done (by kernel_rfl) ?_
                      exact ⟨_, rfl, b12, l115, hs0, hs4, hs5, hs7, hs11, rfl, hm115, cx, PthsC.mono (fun b hb => Ca.next hA hk00 hQ.sz (Nx.self _ _) b hb) (fun b hb => hQ.kp b (Ca.d0 hA hk00 b hb)) _ _ hcs⟩
                  · skip
                    have hs12 := hQ.sz
                    refine s_alloc cx z33 rfl rfl rfl ?_; intro b12 w cx hb12 hw12
                    replace hQ := hQ.below hw12
                    have hl12 : wk0.heap.size ≤ b12 := Nat.le_trans hs12 (Nat.le_of_eq hb12)
                    refine x_next ⟨.inl (cx.pick2 2 1 rfl rfl rfl), ?_⟩
                    refine x_two (i := 9) (j := 10) (by kernel_rfl) rfl rfl ?_ ?_
                    · skip
                      refine s_val rfl rfl (v_extract rfl rfl rfl) ?_
                      refine x_next ⟨.inr (by kernel_rfl), ?_⟩
                      refine x_two (i := 10) (j := 12) (by kernel_rfl) rfl rfl ?_ ?_
                      · skip
                        refine s_val rfl rfl (v_extract rfl rfl rfl) ?_
                        refine x_next ⟨.inr (by kernel_rfl), ?_⟩
                        refine x_one (i := 12) (by kernel_rfl) rfl ?_
                        refine s_storeAllG cx 0 rfl rfl rfl rfl rfl rfl (by rw [hm115.len]; exact sz33) (by rw [hm115.len]; rfl) hm115.one ?_; intro w cx hg12
                        replace hQ := hQ.later hg12 hl12
                        refine x_next ⟨.inr (by kernel_rfl), ?_⟩
                        refine x_one (i := 13) (by kernel_rfl) rfl ?_
                        refine s_val rfl rfl (v_assign rfl rfl) ?_
                        refine x_next ⟨.inr (by kernel_rfl), ?_⟩
                        refine x_done (by kernel_rfl) ?_
                        exact ⟨_, rfl, b12, l115, hs0, hs4, hs5, hs7, hs11, rfl, hm115, cx, PthsC.mono (fun b hb => Ca.next hA hk00 hQ.sz (Nx.self _ _) b hb) (fun b hb => hQ.kp b (Ca.d0 hA hk00 b hb)) _ _ hcs⟩
                      · skip
                        refine s_storeAllG cx 0 rfl rfl rfl rfl rfl rfl (by rw [hm115.len]; exact sz33) (by rw [hm115.len]; rfl) hm115.one ?_; intro w cx hg12
                        replace hQ := hQ.later hg12 hl12
                        refine x_next ⟨.inr (by kernel_rfl), ?_⟩
                        refine x_one (i := 10) (by kernel_rfl) rfl ?_
                        refine s_val rfl rfl (v_extract rfl rfl rfl) ?_
                        refine x_next ⟨.inr (by kernel_rfl), ?_⟩
                        refine x_one (i := 13) (by kernel_rfl) rfl ?_
                        refine s_val rfl rfl (v_assign rfl rfl) ?_
                        refine x_next ⟨.inr (by kernel_rfl), ?_⟩
                        refine x_done (by kernel_rfl) ?_
                        exact ⟨_, rfl, b12, l115, hs0, hs4, hs5, hs7, hs11, rfl, hm115, cx, PthsC.mono (fun b hb => Ca.next hA hk00 hQ.sz (Nx.self _ _) b hb) (fun b hb => hQ.kp b (Ca.d0 hA hk00 b hb)) _ _ hcs⟩
                    · skip
                      refine s_val rfl rfl (v_extract rfl rfl rfl) ?_
                      refine x_next ⟨.inr (by kernel_rfl), ?_⟩
                      refine x_one (i := 9) (by kernel_rfl) rfl ?_
                      refine s_val rfl rfl (v_extract rfl rfl rfl) ?_
                      refine x_next ⟨.inr (by kernel_rfl), ?_⟩
                      refine x_one (i := 12) (by kernel_rfl) rfl ?_
                      refine s_storeAllG cx 0 rfl rfl rfl rfl rfl rfl (by rw [hm115.len]; exact sz33) (by rw [hm115.len]; rfl) hm115.one ?_; intro w cx hg12
                      replace hQ := hQ.later hg12 hl12
                      refine x_next ⟨.inr (by kernel_rfl), ?_⟩
                      refine x_one (i := 13) (by kernel_rfl) rfl ?_
                      refine s_val rfl rfl (v_assign rfl rfl) ?_
                      refine x_next ⟨.inr (by kernel_rfl), ?_⟩
                      refine x_done (by kernel_rfl) ?_
                      exact ⟨_, rfl, b12, l115, hs0, hs4, hs5, hs7, hs11, rfl, hm115, cx, PthsC.mono (fun b hb => Ca.next hA hk00 hQ.sz (Nx.self _ _) b hb) (fun b hb => hQ.kp b (Ca.d0 hA hk00 b hb)) _ _ hcs⟩
                · skip
                  have hs12 := hQ.sz
                  refine s_alloc cx z33 rfl rfl rfl ?_; intro b12 w cx hb12 hw12
                  replace hQ := hQ.below hw12
                  have hl12 : wk0.heap.size ≤ b12 := Nat.le_trans hs12 (Nat.le_of_eq hb12)
                  refine x_next ⟨.inl (cx.pick2 2 1 rfl rfl rfl), ?_⟩
                  refine x_one (i := 8) (by kernel_rfl) rfl ?_
                  refine s_val rfl rfl (v_move rfl rfl) ?_
                  refine x_next ⟨.inr (by kernel_rfl), ?_⟩
                  refine x_two (i := 9) (j := 10) (by kernel_rfl) rfl rfl ?_ ?_
                  · skip
                    refine s_val rfl rfl (v_extract rfl rfl rfl) ?_
                    refine x_next ⟨.inr (by kernel_rfl), ?_⟩
                    refine x_two (i := 10) (j := 12) (by kernel_rfl) rfl rfl ?_ ?_
                    · skip
                      refine s_val rfl rfl (v_extract rfl rfl rfl) ?_
                      refine x_next ⟨.inr (by kernel_rfl), ?_⟩
                      refine x_one (i := 12) (by kernel_rfl) rfl ?_
                      refine s_storeAllG cx 0 rfl rfl rfl rfl rfl rfl (by rw [hm115.len]; exact sz33) (by rw [hm115.len]; rfl) hm115.one ?_; intro w cx hg12
                      replace hQ := hQ.later hg12 hl12
                      refine x_next ⟨.inr (by kernel_rfl), ?_⟩
                      refine x_one (i := 13) (by kernel_rfl) rfl ?_
                      refine s_val rfl rfl (v_assign rfl rfl) ?_
                      refine x_next ⟨.inr (by kernel_rfl), ?_⟩
                      refine x_done (by kernel_rfl) ?_
                      exact ⟨_, rfl, b12, l115, hs0, hs4, hs5, hs7, hs11, rfl, hm115, cx, PthsC.mono (fun b hb => Ca.next hA hk00 hQ.sz (Nx.self _ _) b hb) (fun b hb => hQ.kp b (Ca.d0 hA hk00 b hb)) _ _ hcs⟩
                    · skip
                      refine s_storeAllG cx 0 rfl rfl rfl rfl rfl rfl (by rw [hm115.len]; exact sz33) (by rw [hm115.len]; rfl) hm115.one ?_; intro w cx hg12
                      replace hQ := hQ.later hg12 hl12
                      refine x_next ⟨.inr (by kernel_rfl), ?_⟩
                      refine x_one (i := 10) (by kernel_rfl) rfl ?_
                      refine s_val rfl rfl (v_extract rfl rfl rfl) ?_
                      refine x_next ⟨.inr (by kernel_rfl), ?_⟩
                      refine x_one (i := 13) (by kernel_rfl) rfl ?_
                      refine s_val rfl rfl (v_assign rfl rfl) ?_
                      refine x_next ⟨.inr (by kernel_rfl), ?_⟩
                      refine x_done (by kernel_rfl) ?_
                      exact ⟨_, rfl, b12, l115, hs0, hs4, hs5, hs7, hs11, rfl, hm115, cx, PthsC.mono (fun b hb => Ca.next hA hk00 hQ.sz (Nx.self _ _) b hb) (fun b hb => hQ.kp b (Ca.d0 hA hk00 b hb)) _ _ hcs⟩
                  · skip
                    refine s_val rfl rfl (v_extract rfl rfl rfl) ?_
                    refine x_next ⟨.inr (by kernel_rfl), ?_⟩
                    refine x_one (i := 9) (by kernel_rfl) rfl ?_
                    refine s_val rfl rfl (v_extract rfl rfl rfl) ?_
                    refine x_next ⟨.inr (by kernel_rfl), ?_⟩
                    refine x_one (i := 12) (by kernel_rfl) rfl ?_
                    refine s_storeAllG cx 0 rfl rfl rfl rfl rfl rfl (by rw [hm115.len]; exact sz33) (by rw [hm115.len]; rfl) hm115.one ?_; intro w cx hg12
                    replace hQ := hQ.later hg12 hl12
                    refine x_next ⟨.inr (by kernel_rfl), ?_⟩
                    refine x_one (i := 13) (by kernel_rfl) rfl ?_
                    refine s_val rfl rfl (v_assign rfl rfl) ?_
                    refine x_next ⟨.inr (by kernel_rfl), ?_⟩
                    refine x_done (by kernel_rfl) ?_
                    exact ⟨_, rfl, b12, l115, hs0, hs4, hs5, hs7, hs11, rfl, hm115, cx, PthsC.mono (fun b hb => Ca.next hA hk00 hQ.sz (Nx.self _ _) b hb) (fun b hb => hQ.kp b (Ca.d0 hA hk00 b hb)) _ _ hcs⟩
              · skip
                have hs12 := hQ.sz
                refine s_alloc cx z33 rfl rfl rfl ?_; intro b12 w cx hb12 hw12
                replace hQ := hQ.below hw12
                have hl12 : wk0.heap.size ≤ b12 := Nat.le_trans hs12 (Nat.le_of_eq hb12)
                refine x_next ⟨.inl (cx.pick2 2 1 rfl rfl rfl), ?_⟩
                refine x_one (i := 7) (by kernel_rfl) rfl ?_
                refine s_fn cx (c86 A b _ a.fields[i].1 _ (fun b hb => Nat.lt_of_lt_of_le (hA b hb) cx.ext.size) (RepV.mono (fun _ h => h) (fun b hb => cx.ext.block b (hA b hb)) _ _ hvb) hbfl) Try.func86 rfl rfl rfl rfl rfl rfl ?_; intro q115 w cx hw115 hp115
                obtain ⟨l115, rfl, hm115⟩ := hp115
                replace hQ := hQ.below hw115
                rw [hu] at hm115
                replace hm115 : RepV A w0 u l115 := RepV.mono (fun _ h => h) (fun b hb => (cx.ext.block b (hA b hb)).symm) _ _ hm115
                refine x_next ⟨.inr (by kernel_rfl), ?_⟩
                refine x_one (i := 8) (by kernel_rfl) rfl ?_
                refine s_val rfl rfl (v_move rfl rfl) ?_
                refine x_next ⟨.inr (by kernel_rfl), ?_⟩
                refine x_two (i := 9) (j := 10) (by kernel_rfl) rfl rfl ?_ ?_
                · skip
                  refine s_val rfl rfl (v_extract rfl rfl rfl) ?_
                  refine x_next ⟨.inr (by kernel_rfl), ?_⟩
                  refine x_two (i := 10) (j := 12) (by kernel_rfl) rfl rfl ?_ ?_
                  · skip
                    refine s_val rfl rfl (v_extract rfl rfl rfl) ?_
                    refine x_next ⟨.inr (by kernel_rfl), ?_⟩
                    refine x_one (i := 12) (by kernel_rfl) rfl ?_
                    refine s_storeAllG cx 0 rfl rfl rfl rfl rfl rfl (by rw [hm115.len]; exact sz33) (by rw [hm115.len]; rfl) hm115.one ?_; intro w cx hg12
                    replace hQ := hQ.later hg12 hl12
                    refine x_next ⟨.inr (by kernel_rfl), ?_⟩
                    refine x_one (i := 13) (by kernel_rfl) rfl ?_
                    refine s_val rfl rfl (v_assign rfl rfl) ?_
                    refine x_next ⟨.inr (by kernel_rfl), ?_⟩
                    refine x_done (by kernel_rfl) ?_
                    exact ⟨_, rfl, b12, l115, hs0, hs4, hs5, hs7, hs11, rfl, hm115, cx, PthsC.mono (fun b hb => Ca.next hA hk00 hQ.sz (Nx.self _ _) b hb) (fun b hb => hQ.kp b (Ca.d0 hA hk00 b hb)) _ _ hcs⟩
                  · skip
                    refine s_storeAllG cx 0 rfl rfl rfl rfl rfl rfl (by rw [hm115.len]; exact sz33) (by rw [hm115.len]; rfl) hm115.one ?_; intro w cx hg12
                    replace hQ := hQ.later hg12 hl12
                    refine x_next ⟨.inr (by kernel_rfl), ?_⟩
                    refine x_one (i := 10) (by kernel_rfl) rfl ?_
                    refine s_val rfl rfl (v_extract rfl rfl rfl) ?_
                    refine x_next ⟨.inr (by kernel_rfl), ?_⟩
                    refine x_one (i := 13) (by kernel_rfl) rfl ?_
                    refine s_val rfl rfl (v_assign rfl rfl) ?_
                    refine x_next ⟨.inr (by kernel_rfl), ?_⟩
                    refine x_done (by kernel_rfl) ?_
                    exact ⟨_, rfl, b12, l115, hs0, hs4, hs5, hs7, hs11, rfl, hm115, cx, PthsC.mono (fun b hb => Ca.next hA hk00 hQ.sz (Nx.self _ _) b hb) (fun b hb => hQ.kp b (Ca.d0 hA hk00 b hb)) _ _ hcs⟩
                · skip
                  refine s_val rfl rfl (v_extract rfl rfl rfl) ?_
                  refine x_next ⟨.inr (by kernel_rfl), ?_⟩
                  refine x_one (i := 9) (by kernel_rfl) rfl ?_
                  refine s_val rfl rfl (v_extract rfl rfl rfl) ?_
                  refine x_next ⟨.inr (by kernel_rfl), ?_⟩
                  refine x_one (i := 12) (by kernel_rfl) rfl ?_
                  refine s_storeAllG cx 0 rfl rfl rfl rfl rfl rfl (by rw [hm115.len]; exact sz33) (by rw [hm115.len]; rfl) hm115.one ?_; intro w cx hg12
                  replace hQ := hQ.later hg12 hl12
                  refine x_next ⟨.inr (by kernel_rfl), ?_⟩
                  refine x_one (i := 13) (by kernel_rfl) rfl ?_
                  refine s_val rfl rfl (v_assign rfl rfl) ?_
                  refine x_next ⟨.inr (by kernel_rfl), ?_⟩
                  refine x_done (by kernel_rfl) ?_
                  exact ⟨_, rfl, b12, l115, hs0, hs4, hs5, hs7, hs11, rfl, hm115, cx, PthsC.mono (fun b hb => Ca.next hA hk00 hQ.sz (Nx.self _ _) b hb) (fun b hb => hQ.kp b (Ca.d0 hA hk00 b hb)) _ _ hcs⟩
            intro f w hJ
            obtain ⟨b12, l12, hs0, hs4, hs5, hs7, hs11, hs12, hvw, cx, hcs⟩ := hJ
            replace hQ := Kp.d0 w x
            obtain ⟨wk, rfl⟩ : ∃ y, y = w := ⟨_, rfl⟩
            have hk0 := cx.ext.size
            refine w_ord cx (cx.pick2 2 0 rfl rfl rfl) mixed [(0, 118), (1, 119), (2, 120), (3, 121), (4, 122), (5, 123), (6, 124), (7, 125), (9, 127), (10, 128), (11, 129), (12, 130), (13, 131), (14, 132), (15, 133)] #[true, true, true, true, true, true, true, true, false, true, true, true, true, true, true, true, false, false, false] (by kernel_rfl) (by kernel_rfl) (by kernel_rfl) (by kernel_rfl) ?_
            refine pu_one rfl (wnt_none rfl) (fun w cx => v_move rfl hs7) ?_
            refine pu_one rfl (wnt_none rfl) (fun w cx => v_move rfl hs0) ?_
            refine pu_one rfl (wnt_none rfl) (fun w cx => v_fa fa33_7 rfl hs4) ?_
            refine pu_one rfl (wnt_none rfl) (fun w cx => v_load1 rfl rfl Try.underlying31 rfl (cx.cell 0 rfl rfl)) ?_
            refine pu_one rfl (wnt_none rfl) (fun w cx => v_move rfl hs11) ?_
            refine pu_one rfl (wnt_none rfl) (fun w cx => v_ia Try.underlying31 sz77 rfl rfl rfl (by omega) (by omega)) ?_
            refine pu_one rfl (wnt_none rfl) (fun w cx => v_fa fa77_0 rfl rfl) ?_
            refine pu_one rfl (wnt_none rfl) (fun w cx => v_load1 rfl rfl Try.underlying9 rfl ((hr.keep (cx.ext.block _ (hA _ hrA))).cell 0 rfl)) ?_
            refine pu_one rfl (wnt_none rfl) (fun w cx => v_fa fa33_7 rfl hs4) ?_
            refine pu_one rfl (wnt_none rfl) (fun w cx => v_load1 rfl rfl Try.underlying31 rfl (cx.cell 0 rfl rfl)) ?_
            refine pu_one rfl (wnt_none rfl) (fun w cx => v_move rfl hs11) ?_
            refine pu_one rfl (wnt_none rfl) (fun w cx => v_ia Try.underlying31 sz77 rfl rfl rfl (by omega) (by omega)) ?_
            refine pu_one rfl (wnt_none rfl) (fun w cx => v_fa fa77_1 rfl rfl) ?_
            refine pu_one rfl (wnt_none rfl) (fun w cx => v_load rfl rfl Try.underlying33 rfl sz33 ((hr.keep (cx.ext.block _ (hA _ hrA))).tail) hrv.len) ?_
            refine pu_one rfl (wnt_none rfl) (fun w cx => v_load rfl hs12 Try.underlying33 rfl sz33 (cx.row 1 rfl) hvw.len) ?_
            refine pu_nil ?_; intro w cx hwD21
            replace hQ := hQ.below hwD21
            refine x_one (i := 8) (by kernel_rfl) rfl ?_
            have cx126b := cx
            refine s_fn cx (c87 a.fields[i].1 A p ps _ (fun b hb => Nat.lt_of_lt_of_le (hA b hb) cx.ext.size) (hpp.mono (fun _ h => h) (fun b hb => cx.ext.block b (hA b hb))) (by omega)) Try.func87 rfl rfl rfl rfl rfl rfl ?_; intro q126 w cx hw126 hp126
            replace hQ := hQ.below hw126
            refine x_next ⟨.inl (cx.pick2 2 0 rfl rfl rfl), ?_⟩
            refine x_one (i := 16) (by kernel_rfl) rfl ?_
            have cxc := cx
            obtain ⟨wj, hwj⟩ : ∃ y, y = w := ⟨_, rfl⟩
            subst hwj
            have hk1 := cx.ext.size
            refine s_fn cx (ih (p ++ [keyS a.fields[i].1]) _ a.fields[i].2 u _ _ (fun b => (A b ∨ Fr w0 wj b) ∧ x.ownBlock ≠ some b) _ (fun b hb => hb.1.elim (fun h => Nat.lt_of_lt_of_le (hA b h) hk1) (fun h => h.2)) (hp126.mono (fun b hb => ⟨.inr ⟨Nat.le_trans cx126b.ext.size hb.1, hb.2⟩, fun e => by have := (Made_lt cx126b.head b e).2; have := hb.1; omega⟩) (fun _ _ => rfl)) (RepV.mono (fun b hb => ⟨.inl hb, fun e => by have := (Made_lt cx.head b e).1; have := hA b hb; omega⟩) (fun b hb => cx.ext.block b (hA b hb)) _ _ hrv) (RepV.mono (fun b hb => ⟨.inl hb, fun e => by have := (Made_lt cx.head b e).1; have := hA b hb; omega⟩) (fun b hb => cx.ext.block b (hA b hb)) _ _ hvw) (hoa.2.2.2 _ hkm) (hob.2.2.2 _ (hasF_mem hu)) (hfa1.field hkm).2 (hfb.field (hasF_mem hu)).2 (by rw [List.length_append, List.length_singleton]; omega) (by omega) (by omega)) Try.func59 rfl rfl rfl rfl rfl rfl ?_; intro q134 w cx hw134 hp134
            replace hQ := hQ.below hw134
            obtain ⟨cs2, hrow2, hps2⟩ := hp134
            obtain ⟨wd, hwd⟩ : ∃ y, y = w := ⟨_, rfl⟩
            subst hwd
            have hlen2 := (PthsC.len _ _ hps2)
            have hm0 := hQ.sz
            have hG : dfr E d (p ++ [keyS a.fields[i].1]) a.fields[i].2 ((hasF a.fields[i].1 b.fields).getD nulV) = dfr E d (p ++ [keyS a.fields[i].1]) a.fields[i].2 u := by simp only [hu, Option.getD_some]
            refine x_next ⟨.inl (cx.pick2 2 0 rfl rfl rfl), ?_⟩
            refine x_one (i := 17) (by kernel_rfl) rfl ?_
            refine s_appendS cx ei24 Try.underlying46 rfl rfl rfl rfl rfl (src_rowk hrow2) (by rw [hlen2.1]; omega) hlen2.2 (by omega) ?_; intro v135 w cx hgr135 hnw135
            replace hQ := hQ.d0own hgr135 rfl (Nx.self _ _)
            have hKj : Kp (fun b => (A b ∨ Fr w0 wj b) ∧ x.ownBlock ≠ some b ∨ Fr wj wd b) wd w := (Kp.refl (fun b hb => hb.elim (fun h => h.1.elim (fun h => by have := hA b h; have := hw134.size; omega) (fun h => by have := h.2; have := hw134.size; omega)) (fun h => h.2))).grown hgr135 (fun b hb e => hb.elim (fun h => h.2 e) (fun h => by have := (Made_lt cxc.head b e).2; have := h.1; omega))
            have hj1 := PthsC.mono (A' := Ca A w0 w v135) (fun b hb => Ca.join hA hk1 hKj.sz hw134.size (fun q hq => (Made_lt cxc.head q hq).2) (Nat.le_refl _) hnw135 b (hb.1.imp id id)) (fun b hb => hKj.kp b (hb.1.imp id id)) _ _ hps2
            have hNw : Nx wk x v135 := fun q hq => (hnw135 q hq).imp id (fun h => Nat.le_trans hm0 h)
            have hj0 := PthsC.mono (A' := Ca A w0 w v135) (fun b hb => Ca.next hA hk0 hQ.sz hNw b hb) (fun b hb => hQ.kp b (Ca.d0 hA hk0 b hb)) _ _ hcs
            refine x_next ⟨.inr (by kernel_rfl), ?_⟩
            refine x_one (i := 18) (by kernel_rfl) rfl ?_
            refine s_val rfl rfl (v_assign rfl rfl) ?_
            refine x_next ⟨.inr (by kernel_rfl), ?_⟩
            refine x_done (by kernel_rfl) ?_
            refine wp_region_lit ?_
            refine s_val rfl rfl (v_move rfl hs11) ?_
            refine s_val rfl rfl (v_add rfl rfl rfl (by omega) (by omega)) ?_
            refine s_val rfl rfl (v_assign rfl rfl) ?_
            refine wpList_nil ?_
            refine ⟨gk18 - 1, _, by omega, rfl, i + 1, v135, cs' ++ cs2, by omega, hs0, hs4, hs5, rfl, rfl, ?_, ?_⟩
            · rw [fm_take (by omega), List.length_append, hG]
              exact cx.drop 1
            · rw [fm_take (by omega), hG]
              exact PthsC.append _ _ _ _ hj0 hj1
          · skip
            try simp only [Bool.and_eq_true, Bool.or_eq_true, Bool.and_eq_false_iff, Bool.or_eq_false_iff, Bool.not_eq_true', Bool.not_eq_false', decide_eq_true_eq, decide_eq_false_iff_not, beq_iff_eq, beq_eq_false_iff_ne, bne_iff_ne, bne_eq_false_iff_eq, ne_eq, Classical.not_not] at hc104
            refine wp_exit ?_
            refine wp_seq ?_
            refine wp_region_lit ?_
            refine s_val rfl rfl (v_move rfl hs7) ?_
            refine s_val rfl rfl (v_assign rfl rfl) ?_
            refine wpList_nil ?_
            refine wp_ret ?_
            refine ret_tmp Try.results59 rfl ?_
            have hi : i = a.fields.length := by omega
            subst hi
            rw [List.take_of_length_le (Nat.le_refl _)] at cx hcs
            rw [hdf]
            exact ⟨cx.ext, cs', cx.head, hcs⟩
end Go.Proofs.Ytmkihcdcgkdilaa
