/-
  Contracts: the merge of three values, of the program.
-/
import Derived.Test.YtmkihcdcgkdilaaMg
import Derived.Test.YtmkihcdcgkdilaaMh
namespace Go.Proofs.Ytmkihcdcgkdilaa
open Go Go.Dk Go.RowKit
set_option linter.unusedSimpArgs false
set_option linter.unusedVariables false
attribute [local irreducible] Go.wpList Go.Code.wp Go.bodyPost Go.wpStill Go.wpQuiet
set_option maxRecDepth 10000 in
set_option maxHeartbeats 3200000 in
theorem c62 (E : V → V → Bool) (hE : ∀ x y, E x y = true ↔ canon x = canon y) (tk : List Bool) (htk : tk.length ≤ 1048576) (m : Nat) (hm : m ≤ 300000) (b o t : V) (r0 r1 r2 : List Value) (s : Value) (w0 : World) (hb : Val w0 b r0) (ho : Val w0 o r1) (ht : Val w0 t r2) (hs : Bls w0 s tk) (gb : Gd 48 m b) (go : Gd 48 m o) (gt : Gd 48 m t) (hn : (mg E tk 48 0 [] (some b) (some o) (some t)).2.length ≤ 1048576) : Fc Try.prog 62 [.agg r0.toArray, .agg r1.toArray, .agg r2.toArray, s] w0 (ThP w0 (mg E tk 48 0 [] (some b) (some o) (some t))) := by
  obtain ⟨u, hu⟩ := mg_some E tk 47 0 [] (some b) o t
  have hgu : Gd 48 (3 * m) u := mg_gd E tk (by omega) 48 0 [] (some b) (some o) (some t) (GdO.some gb) (GdO.some go) (GdO.some gt) u hu
  obtain ⟨ta, tc, tb, to, rfl, hta⟩ := hs
  refine ret_enter Try.func62 rfl Try.ntmps62 rfl ?_
  have cx := Ctx.start w0
  refine wp_seq ?_
  refine wp_region_lit ?_
  refine s_box cx rfl rfl rfl rfl rfl ?_; intro b4 w cx hb4 hw4
  refine s_box cx rfl rfl rfl rfl rfl ?_; intro b5 w cx hb5 hw5
  refine s_box cx rfl rfl rfl rfl rfl ?_; intro b6 w cx hb6 hw6
  refine s_box cx rfl rfl rfl rfl rfl ?_; intro b7 w cx hb7 hw7
  refine s_alloc cx z33 rfl rfl rfl ?_; intro b8 w cx hb8 hw8
  refine s_val rfl rfl (v_assign rfl rfl) ?_
  refine wpList_nil ?_
  refine wp_seq ?_
  refine wp_region_lit ?_
  refine s_alloc cx z50 rfl rfl rfl ?_; intro b10 w cx hb10 hw10
  refine wpList_nil ?_
  refine wp_seq ?_
  refine wp_region_lit ?_
  refine s_alloc cx z121 rfl rfl rfl ?_; intro b11 w cx hb11 hw11
  refine wpList_nil ?_
  refine wp_seq ?_
  refine wp_region_lit ?_
  refine s_val rfl rfl (v_makeFunc3 rfl rfl rfl rfl) ?_
  refine s_store1G cx 0 rfl rfl rfl rfl rfl rfl rfl rfl sz121 ?_; intro w cx hg11
  refine wpList_nil ?_
  refine wp_seq ?_
  refine wp_region_lit ?_
  refine s_val rfl rfl (v_load1 rfl rfl Try.underlying121 rfl (cx.cell 0 rfl rfl)) ?_
  have cxA : Cxr w0 w [(b11, .cells ([FN b11 b10 b7] : List Value).toArray 121), (b10, .cells ([.slice none 0 0] : List Value).toArray 50), (b8, .cells (vrow (zk 0) (.slice none 0 0) (.slice none 0 0) (.slice none 0 0)).toArray 33), (b7, .cells ([.slice ta tk.length tc] : List Value).toArray 55), (b6, .cells r2.toArray 33), (b5, .cells r1.toArray 33), (b4, .cells r0.toArray 33)] [] := cx
  have cxB : Cxr w0 w [(b10, .cells ([.slice none 0 0] : List Value).toArray 50), (b8, .cells (vrow (zk 0) (.slice none 0 0) (.slice none 0 0) (.slice none 0 0)).toArray 33)] [⟨94, 4, .slice none 0 0, 0, []⟩] := (cxA.subL (List.Sublist.cons _ (List.Sublist.cons_cons _ (List.Sublist.cons_cons _ (List.nil_sublist _))))).nilRow 94 4
  have oF : ∀ q, F w [(b10, .cells ([.slice none 0 0] : List Value).toArray 50), (b8, .cells (vrow (zk 0) (.slice none 0 0) (.slice none 0 0) (.slice none 0 0)).toArray 33)] [] q → F w [(b10, .cells ([.slice none 0 0] : List Value).toArray 50), (b8, .cells (vrow (zk 0) (.slice none 0 0) (.slice none 0 0) (.slice none 0 0)).toArray 33)] [⟨94, 4, .slice none 0 0, 0, []⟩] q := (Fz.nilRow 94 4).up
  have p1 : PtrO (F w [(b10, .cells ([.slice none 0 0] : List Value).toArray 50), (b8, .cells (vrow (zk 0) (.slice none 0 0) (.slice none 0 0) (.slice none 0 0)).toArray 33)] [⟨94, 4, .slice none 0 0, 0, []⟩]) w (.pointer (some ⟨b4, 0, none⟩)) (some b) := ⟨b4, r0, rfl, oF _ (F.out (L' := [(b10, .cells ([.slice none 0 0] : List Value).toArray 50), (b8, .cells (vrow (zk 0) (.slice none 0 0) (.slice none 0 0) (.slice none 0 0)).toArray 33)]) cxA (i := 6) rfl (fun q hq => by rcases List.mem_cons.1 hq with rfl | hq; exact ⟨1, by decide, rfl⟩; rcases List.mem_cons.1 hq with rfl | hq; exact ⟨2, by decide, rfl⟩; cases hq)), cxA.row 6 rfl, hb.toF cxB⟩
  have p2 : PtrO (F w [(b10, .cells ([.slice none 0 0] : List Value).toArray 50), (b8, .cells (vrow (zk 0) (.slice none 0 0) (.slice none 0 0) (.slice none 0 0)).toArray 33)] [⟨94, 4, .slice none 0 0, 0, []⟩]) w (.pointer (some ⟨b5, 0, none⟩)) (some o) := ⟨b5, r1, rfl, oF _ (F.out (L' := [(b10, .cells ([.slice none 0 0] : List Value).toArray 50), (b8, .cells (vrow (zk 0) (.slice none 0 0) (.slice none 0 0) (.slice none 0 0)).toArray 33)]) cxA (i := 5) rfl (fun q hq => by rcases List.mem_cons.1 hq with rfl | hq; exact ⟨1, by decide, rfl⟩; rcases List.mem_cons.1 hq with rfl | hq; exact ⟨2, by decide, rfl⟩; cases hq)), cxA.row 5 rfl, ho.toF cxB⟩
  have p3 : PtrO (F w [(b10, .cells ([.slice none 0 0] : List Value).toArray 50), (b8, .cells (vrow (zk 0) (.slice none 0 0) (.slice none 0 0) (.slice none 0 0)).toArray 33)] [⟨94, 4, .slice none 0 0, 0, []⟩]) w (.pointer (some ⟨b6, 0, none⟩)) (some t) := ⟨b6, r2, rfl, oF _ (F.out (L' := [(b10, .cells ([.slice none 0 0] : List Value).toArray 50), (b8, .cells (vrow (zk 0) (.slice none 0 0) (.slice none 0 0) (.slice none 0 0)).toArray 33)]) cxA (i := 4) rfl (fun q hq => by rcases List.mem_cons.1 hq with rfl | hq; exact ⟨1, by decide, rfl⟩; rcases List.mem_cons.1 hq with rfl | hq; exact ⟨2, by decide, rfl⟩; cases hq)), cxA.row 4 rfl, ht.toF cxB⟩
  have htkr : TkR (F w [(b10, .cells ([.slice none 0 0] : List Value).toArray 50), (b8, .cells (vrow (zk 0) (.slice none 0 0) (.slice none 0 0) (.slice none 0 0)).toArray 33)] [⟨94, 4, .slice none 0 0, 0, []⟩]) w b11 b10 b7 tk := ⟨oF _ (F.out (L' := [(b10, .cells ([.slice none 0 0] : List Value).toArray 50), (b8, .cells (vrow (zk 0) (.slice none 0 0) (.slice none 0 0) (.slice none 0 0)).toArray 33)]) cxA (i := 0) rfl (fun q hq => by rcases List.mem_cons.1 hq with rfl | hq; exact ⟨1, by decide, rfl⟩; rcases List.mem_cons.1 hq with rfl | hq; exact ⟨2, by decide, rfl⟩; cases hq)), cxA.row 0 rfl, oF _ (F.out (L' := [(b10, .cells ([.slice none 0 0] : List Value).toArray 50), (b8, .cells (vrow (zk 0) (.slice none 0 0) (.slice none 0 0) (.slice none 0 0)).toArray 33)]) cxA (i := 3) rfl (fun q hq => by rcases List.mem_cons.1 hq with rfl | hq; exact ⟨1, by decide, rfl⟩; rcases List.mem_cons.1 hq with rfl | hq; exact ⟨2, by decide, rfl⟩; cases hq)), ta, tc, tb, to, cxA.row 3 rfl, fun h0 => ⟨(hta h0).1, F.old cxB _ (hta h0).2.1, (hta h0).2.2.up cxB.ext⟩⟩
  refine s_callR rfl rfl (runs_fnv (cap := [.pointer (some ⟨b11, 0, none⟩), .pointer (some ⟨b10, 0, none⟩), .pointer (some ⟨b7, 0, none⟩)]) Try.func89 rfl rfl rfl rfl rfl) (c89 E hE tk htk m hm 48 w0 [(b10, .cells ([.slice none 0 0] : List Value).toArray 50), (b8, .cells (vrow (zk 0) (.slice none 0 0) (.slice none 0 0) (.slice none 0 0)).toArray 33)] [] 0 b10 (.slice none 0 0) 0 [] [] _ (some b) (some o) (some t) _ _ _ b11 b7 w cxB rfl htkr PthA.nil p1 p2 p3 (GdO.some gb) (GdO.some go) (GdO.some gt) rfl (by simp) (by omega) (by omega)) ?_; intro q15 w hp15
  have hlow := cxA.ext.size
  clear cx cxA cxB
  have hO1 := hp15
  obtain ⟨v', rs', cx, hz, hq15, hcf⟩ := hO1
  simp only [List.set_cons_zero, Nat.zero_add, List.nil_append] at cx hz hq15 hcf
  replace hcf := cfs_low hcf hlow
  rw [hu] at hq15
  obtain ⟨bq, rq, rfl, hFq, hrq, hvq⟩ := hq15
  have hzz := hz.self
  refine s_val rfl rfl (v_assign rfl rfl) ?_
  refine wpList_nil ?_
  refine wp_seq ?_
  refine w_ordK cx (cx.pick1 0 rfl) hzz.kp mixed [(0, 16), (1, 17), (2, 18), (4, 20)] #[true, true, true, false, true, false, false] (by kernel_rfl) (by kernel_rfl) (by kernel_rfl) (by kernel_rfl) ?_
  refine pu_one rfl (wnt_none rfl) (fun w hS => by obtain ⟨cx, hkS⟩ := hS; exact v_move rfl rfl) ?_
  refine pu_one rfl (wnt_none rfl) (fun w hS => by obtain ⟨cx, hkS⟩ := hS; exact v_nilCk rfl rfl) ?_
  refine pu_one rfl (wnt_none rfl) (fun w hS => by obtain ⟨cx, hkS⟩ := hS; exact v_load rfl rfl Try.underlying33 rfl sz33 (hrq.keep (hkS _ hFq)) hvq.len) ?_
  refine pu_one rfl (wnt_none rfl) (fun w hS => by obtain ⟨cx, hkS⟩ := hS; exact v_load1 rfl rfl Try.underlying50 rfl (cx.cell 0 rfl rfl)) ?_
  refine pu_nil ?_; intro w cx hwD5 hkS5
  replace hzz := hzz.trans (Fz.below hwD5)
  replace hvq := (Fz.below hwD5).rep hvq
  replace hcf := (Fz.below hwD5).cfsB hcf
  refine x_one (i := 3) (by kernel_rfl) rfl ?_
  have cx19 := cx
  refine s_fn cx (c60 48 u _ _ (deep_of_okd _ _ hgu.ok) (by omega) hvq.val hgu.fine) Try.func60 rfl rfl rfl rfl rfl rfl ?_; intro q19 w cx hw19 hp19
  have hO2 := hp19.rep
  obtain ⟨r19, rfl, hm19⟩ := hO2
  have hm19f := RepV.frB hm19 cx19 hw19.size cx19.ext.size
  replace hcf := (Fz.below hw19).cfsB hcf
  replace hzz := hzz.trans (Fz.below hw19)
  refine x_next ⟨.inl ⟨cx.pick1 0 rfl, hzz.kp⟩, ?_⟩
  refine x_one (i := 5) (by kernel_rfl) rfl ?_
  refine s_storeAllG cx 1 rfl rfl rfl rfl rfl rfl (by rw [hm19.len]; exact sz33) (by rw [hm19.len]; rfl) hm19.one ?_; intro w cx hg8
  have hzs := Fz.set (i := 1) (L := [(b10, .cells ([v'] : List Value).toArray 50), (b8, .cells (vrow (zk 0) (.slice none 0 0) (.slice none 0 0) (.slice none 0 0)).toArray 33)]) (R := [⟨94, 4, v', (mg E tk 48 0 [] (some b) (some o) (some t)).2.length, rs'.flatten⟩]) (o' := .cells r19.toArray 33) rfl hg8
  replace hcf := hzs.cfsB hcf
  replace hm19f := hzs.repB hm19f
  replace hzz := hzz.trans hzs
  refine x_next ⟨.inl ⟨cx.pick1 0 rfl, hzz.kp⟩, ?_⟩
  refine x_one (i := 6) (by kernel_rfl) rfl ?_
  refine s_val rfl rfl (v_assign rfl rfl) ?_
  refine x_next ⟨.inr (by kernel_rfl), ?_⟩
  refine x_done (by kernel_rfl) ?_
  refine wp_ret ?_
  refine ret_cell2 Try.results62 rfl rfl (cx.at 1 rfl) Try.underlying33 rfl (by rw [hm19.len]; exact sz33) ⟨cx.ext, r19, v', rs', rfl, ?_, cx.head, ?_⟩
  · rw [hu]
    exact RepV.mono (fun b hb => ⟨hb.2, hb.1.1⟩) (fun _ _ => rfl) _ _ hm19f
  · exact hcf.imp fun _ _ h => h.mono (fun b hb => ⟨hb.2, hb.1.1⟩) (fun _ _ => rfl)

set_option maxRecDepth 10000 in
theorem c34 (E : V → V → Bool) (hE : ∀ x y, E x y = true ↔ canon x = canon y) (m : Nat) (hm : m ≤ 300000) (b o t : V) (r0 r1 r2 : List Value) (w0 : World) (hb : Val w0 b r0) (ho : Val w0 o r1) (ht : Val w0 t r2) (gb : Gd 48 m b) (go : Gd 48 m o) (gt : Gd 48 m t) (hn : (mg E [] 48 0 [] (some b) (some o) (some t)).2.length ≤ 1048576) : Fc Try.prog 34 [.agg r0.toArray, .agg r1.toArray, .agg r2.toArray] w0 (ThP w0 (mg E [] 48 0 [] (some b) (some o) (some t))) := by
  refine ret_enter Try.func34 rfl Try.ntmps34 rfl ?_
  have cx := Ctx.start w0
  refine wp_seq ?_
  refine wp_region_lit ?_
  refine s_box cx rfl rfl rfl rfl rfl ?_; intro b3 w cx hb3 hw3
  refine s_box cx rfl rfl rfl rfl rfl ?_; intro b4 w cx hb4 hw4
  refine s_box cx rfl rfl rfl rfl rfl ?_; intro b5 w cx hb5 hw5
  refine s_alloc cx z33 rfl rfl rfl ?_; intro b6 w cx hb6 hw6
  refine s_val rfl rfl (v_assign rfl rfl) ?_
  refine wpList_nil ?_
  refine wp_seq ?_
  refine wp_region_lit ?_
  refine s_val rfl rfl (v_load rfl rfl Try.underlying33 rfl sz33 (cx.row 3 rfl) hb.len) ?_
  refine s_val rfl rfl (v_load rfl rfl Try.underlying33 rfl sz33 (cx.row 2 rfl) ho.len) ?_
  refine s_val rfl rfl (v_load rfl rfl Try.underlying33 rfl sz33 (cx.row 1 rfl) ht.len) ?_
  have cx11 := cx
  refine s_fn cx (c62 E hE [] (by simp) m hm b o t _ _ _ _ _ (hb.up cx.ext) (ho.up cx.ext) (ht.up cx.ext) Bls.nil gb go gt hn) Try.func62 rfl rfl rfl rfl rfl rfl ?_; intro q11 w cx hw11 hp11
  have hO1 := hp11
  obtain ⟨l, x, rs, rfl, hl, hrow, hcf⟩ := hO1
  replace cx := cx11.callRow hw11 hrow
  have hlf := RepV.frB hl cx11 hw11.size cx11.ext.size
  replace hcf := hcf.imp fun _ _ h => h.mono (FB.fresh cx11 hw11.size cx11.ext.size) (fun _ _ => rfl)
  refine s_val rfl rfl (v_extract rfl rfl rfl) ?_
  refine s_val rfl rfl (v_extract rfl rfl rfl) ?_
  refine s_storeAllG cx 0 rfl rfl rfl rfl rfl rfl (by rw [hl.len]; exact sz33) (by rw [hl.len]; rfl) hl.one ?_; intro w cx hg6
  have hzs := Fz.set (i := 0) (R := []) (L := [(b6, .cells (vrow (zk 0) (.slice none 0 0) (.slice none 0 0) (.slice none 0 0)).toArray 33), (b5, .cells r2.toArray 33), (b4, .cells r1.toArray 33), (b3, .cells r0.toArray 33)]) (o' := .cells l.toArray 33) rfl hg6
  replace hlf := hzs.repB hlf
  replace hcf := hzs.cfsB hcf
  refine s_val rfl rfl (v_assign rfl rfl) ?_
  refine wpList_nil ?_
  refine wp_ret ?_
  refine ret_cell2 Try.results34 rfl rfl (cx.at 0 rfl) Try.underlying33 rfl (by rw [hl.len]; exact sz33) ⟨cx.ext, l, x, rs, rfl, ?_, cx.head, ?_⟩
  · exact RepV.mono (fun b hb => ⟨hb.2, hb.1.1⟩) (fun _ _ => rfl) _ _ hlf
  · exact hcf.imp fun _ _ h => h.mono (fun b hb => ⟨hb.2, hb.1.1⟩) (fun _ _ => rfl)

set_option maxRecDepth 10000 in
theorem c38 (E : V → V → Bool) (hE : ∀ x y, E x y = true ↔ canon x = canon y) (tk : List Bool) (htk : tk.length ≤ 1048576) (m : Nat) (hm : m ≤ 300000) (b o t : V) (r0 r1 r2 : List Value) (s : Value) (w0 : World) (hb : Val w0 b r0) (ho : Val w0 o r1) (ht : Val w0 t r2) (hs : Bls w0 s tk) (gb : Gd 48 m b) (go : Gd 48 m o) (gt : Gd 48 m t) (hn : (mg E tk 48 0 [] (some b) (some o) (some t)).2.length ≤ 1048576) : Fc Try.prog 38 [.agg r0.toArray, .agg r1.toArray, .agg r2.toArray, s] w0 (fun y w' => ∃ l : List Value, y = .tuple #[.agg l.toArray, .int .i64 ((mg E tk 48 0 [] (some b) (some o) (some t)).2.length : Int)] ∧ RepV (Fr w0 w') w' ((mg E tk 48 0 [] (some b) (some o) (some t)).1.getD nulV) l) := by
  refine ret_enter Try.func38 rfl Try.ntmps38 rfl ?_
  have cx := Ctx.start w0
  refine wp_seq ?_
  refine wp_region_lit ?_
  refine s_box cx rfl rfl rfl rfl rfl ?_; intro b4 w cx hb4 hw4
  refine s_box cx rfl rfl rfl rfl rfl ?_; intro b5 w cx hb5 hw5
  refine s_box cx rfl rfl rfl rfl rfl ?_; intro b6 w cx hb6 hw6
  refine s_alloc cx z33 rfl rfl rfl ?_; intro b8 w cx hb8 hw8
  refine s_val rfl rfl (v_assign rfl rfl) ?_
  refine wpList_nil ?_
  refine wp_seq ?_
  refine wp_region_lit ?_
  refine s_val rfl rfl (v_load rfl rfl Try.underlying33 rfl sz33 (cx.row 3 rfl) hb.len) ?_
  refine s_val rfl rfl (v_load rfl rfl Try.underlying33 rfl sz33 (cx.row 2 rfl) ho.len) ?_
  refine s_val rfl rfl (v_load rfl rfl Try.underlying33 rfl sz33 (cx.row 1 rfl) ht.len) ?_
  refine s_val rfl rfl (v_move rfl rfl) ?_
  have cx11 := cx
  refine s_fn cx (c62 E hE tk htk m hm b o t _ _ _ _ _ (hb.up cx.ext) (ho.up cx.ext) (ht.up cx.ext) (hs.up cx.ext) gb go gt hn) Try.func62 rfl rfl rfl rfl rfl rfl ?_; intro q17 w cx hw17 hp17
  have hO1 := hp17
  obtain ⟨l, x, rs, rfl, hl, hrow, hcf⟩ := hO1
  have hO2 := own_row hrow
  obtain ⟨xa, xc, rfl, _⟩ := hO2
  have hlf := RepV.frB hl cx11 hw17.size cx11.ext.size
  refine s_val rfl rfl (v_move rfl rfl) ?_
  refine s_val rfl rfl (v_extract rfl rfl rfl) ?_
  refine s_val rfl rfl (v_extract rfl rfl rfl) ?_
  refine s_alloc cx z33 rfl rfl rfl ?_; intro b10 w cx hb10 hw10
  replace hlf := (Fz.new (o := .cells (vrow (zk 0) (.slice none 0 0) (.slice none 0 0) (.slice none 0 0)).toArray 33) hb10 hw10).repB hlf
  refine s_storeAllG cx 0 rfl rfl rfl rfl rfl rfl (by rw [hl.len]; exact sz33) (by rw [hl.len]; rfl) hl.one ?_; intro w cx hg10
  have hzs := Fz.set (i := 0) (R := []) (L := [(b10, .cells (vrow (zk 0) (.slice none 0 0) (.slice none 0 0) (.slice none 0 0)).toArray 33), (b8, .cells (vrow (zk 0) (.slice none 0 0) (.slice none 0 0) (.slice none 0 0)).toArray 33), (b6, .cells r2.toArray 33), (b5, .cells r1.toArray 33), (b4, .cells r0.toArray 33)]) (o' := .cells l.toArray 33) rfl hg10
  replace hlf := hzs.repB hlf
  refine s_val rfl rfl (v_assign rfl rfl) ?_
  refine wpList_nil ?_
  refine wp_seq ?_
  refine wp_region_lit ?_
  refine s_val rfl rfl (v_load rfl rfl Try.underlying33 rfl sz33 (cx.row 0 rfl) hl.len) ?_
  refine s_val rfl rfl (v_move rfl rfl) ?_
  refine s_val rfl rfl (v_lenSlice rfl rfl Try.underlying50) ?_
  refine s_storeAllG cx 1 rfl rfl rfl rfl rfl rfl (by rw [hl.len]; exact sz33) (by rw [hl.len]; rfl) hl.one ?_; intro w cx hg8
  have hzs := Fz.set (i := 1) (R := []) (L := [(b10, .cells l.toArray 33), (b8, .cells (vrow (zk 0) (.slice none 0 0) (.slice none 0 0) (.slice none 0 0)).toArray 33), (b6, .cells r2.toArray 33), (b5, .cells r1.toArray 33), (b4, .cells r0.toArray 33)]) (o' := .cells l.toArray 33) rfl hg8
  replace hlf := hzs.repB hlf
  refine s_val rfl rfl (v_assign rfl rfl) ?_
  refine wpList_nil ?_
  refine wp_ret ?_
  refine ret_cell2 Try.results38 rfl rfl (cx.at 1 rfl) Try.underlying33 rfl (by rw [hl.len]; exact sz33) ⟨cx.ext, l, rfl, ?_⟩
  exact RepV.mono (fun b hb => ⟨hb.2, hb.1.1⟩) (fun _ _ => rfl) _ _ hlf
end Go.Proofs.Ytmkihcdcgkdilaa
