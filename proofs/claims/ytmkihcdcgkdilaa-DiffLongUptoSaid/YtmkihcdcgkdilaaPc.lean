/-
  Contracts: paths, joined and compared; Field of the program and of the reference.
-/
import Derived.Test.YtmkihcdcgkdilaaPb
import Derived.Test.YtmkihcdcgkdilaaDb
import Derived.Test.YtmkihcdcgkdilaaCf
namespace Go.Proofs.Ytmkihcdcgkdilaa
open Go Go.Dk Go.RowKit
set_option linter.unusedSimpArgs false
set_option linter.unusedVariables false
attribute [local irreducible] Go.wpList Go.Code.wp Go.bodyPost Go.wpStill Go.wpQuiet
set_option maxRecDepth 10000 in
theorem c80g (k : Nat) (v : V) (r : List Value) (key : ByteArray) (w0 : World) (hd : deep k v) (hk : k ≤ 65536) (hv : Val w0 v r) (hf : Fine v) (h7 : v.sc.kind = 7 ∨ v.fields = []) : Fc Try.prog 80 [.agg r.toArray, .string key] w0 (fun x w' => ∃ (l : List Value) (bb : Bool), x = .tuple #[.agg l.toArray, .bool bb] ∧ l.length = 13 ∧ l.all (·.oneCell') = true ∧ match hasF key v.fields with | some u => bb = true ∧ Made w0 w' u (.agg l.toArray) | none => bb = false) := by
  obtain ⟨bs, ls, fs, rfl, hbs, hls, hfs⟩ := hv.open
  obtain ⟨fa, fc, fb, fo, rfl, hfa, hfget⟩ := hfs.open
  obtain ⟨kk, rfl⟩ : ∃ kk, k = kk + 1 := by cases k with
    | zero => exact hd.elim
    | succ k => exact ⟨k, rfl⟩
  have hself := hf.self
  refine ret_enter Try.func80 rfl Try.ntmps80 rfl ?_
  have cx := Ctx.start w0
  refine wp_seq ?_
  refine wp_region_lit ?_
  refine s_box cx rfl rfl rfl rfl rfl ?_; intro b2 w cx hb2 hw2
  refine s_alloc cx z33 rfl rfl rfl ?_; intro b4 w cx hb4 hw4
  refine s_val rfl rfl (v_assign rfl rfl) ?_
  refine wpList_nil ?_
  refine wp_seq ?_
  refine wp_seq ?_
  refine wp_region_lit ?_
  refine s_val rfl rfl (v_fa fa33_7 rfl rfl) ?_
  refine s_val rfl rfl (v_load1 rfl rfl Try.underlying31 rfl (cx.cell 1 rfl rfl)) ?_
  refine s_val rfl rfl (v_lenSlice rfl rfl Try.underlying31) ?_
  refine s_val rfl rfl (v_move rfl rfl) ?_
  refine wpList_nil ?_
  refine wp_block ?_
  refine w_loop (fun k f w1 => ∃ i : Nat, k + i = v.fields.length ∧ f 1 = .string key ∧ f 2 = .pointer (some ⟨b2, 0, none⟩) ∧ f 4 = .pointer (some ⟨b4, 0, none⟩) ∧ f 9 = .slice fa v.fields.length fc ∧ f 10 = .int .i64 v.fields.length ∧ f 11 = .int .i64 i ∧ Cxr w0 w1 [(b4, .cells ([.int .i64 0, .bool false, .bool false, .string ByteArray.empty, .int .i64 0, .int .i64 0, .int .i64 0, .int .i64 0, .int .i64 0, .string ByteArray.empty, .slice none 0 0, .slice none 0 0, .slice none 0 0] : List Value).toArray 33), (b2, .cells (vrow v.sc bs ls (.slice fa v.fields.length fc)).toArray 33)] [] ∧ ∀ j, j < i → ∀ kv, v.fields[j]? = some kv → kv.1 ≠ key) (v.fields.length) ?_ ?_
  · skip
    exact ⟨0, by omega, rfl, rfl, rfl, rfl, rfl, rfl, cx, fun j hj => by omega⟩
  intro gk2 f w hJ
  obtain ⟨i, hki, hs1, hs2, hs4, hs9, hs10, hs11, cx, hno⟩ := hJ
  refine wp_seq ?_
  refine wp_region_lit ?_
  refine s_val rfl rfl (v_cmp rfl hs11 hs10 rfl) ?_
  refine wpList_nil ?_
  refine wp_seq ?_
  refine c_split rfl (fun hc12 => ?_) (fun hc12 => ?_)
  · skip
    try simp only [Bool.and_eq_true, Bool.or_eq_true, Bool.and_eq_false_iff, Bool.or_eq_false_iff, Bool.not_eq_true', Bool.not_eq_false', decide_eq_true_eq, decide_eq_false_iff_not, beq_iff_eq, beq_eq_false_iff_ne, bne_iff_ne, bne_eq_false_iff_eq, ne_eq, Classical.not_not] at hc12
    obtain rfl := hfa (by omega)
    obtain ⟨r, hr, hrv⟩ := hfget i v.fields[i] (List.getElem?_eq_getElem (by omega))
    obtain ⟨ebs, els, efs, rfl, _⟩ := hrv.open
    refine wp_skip ?_
    refine wp_seq ?_
    refine wp_block ?_
    refine wp_seq ?_
    refine wp_region_lit ?_
    refine s_val rfl rfl (v_ia Try.underlying31 sz77 rfl hs9 hs11 (by omega) (by omega)) ?_
    refine s_val rfl rfl (v_load rfl rfl Try.underlying77 rfl sz77 (hr.up cx.ext) rfl) ?_
    refine s_alloc cx z77 rfl rfl rfl ?_; intro b7 w cx hb7 hw7
    refine s_storeAllG cx 0 rfl rfl rfl rfl rfl rfl sz77 rfl (by exact hrv.oneCell) ?_; intro w cx hg7
    refine wpList_nil ?_
    refine wp_seq ?_
    refine wp_region_lit ?_
    refine s_val rfl rfl (v_fa fa33_0 rfl hs2) ?_
    refine s_val rfl rfl (v_load1 rfl rfl Try.underlying3 rfl (cx.cell 2 rfl rfl)) ?_
    refine s_val rfl rfl (v_cmp rfl rfl rfl rfl) ?_
    refine s_val rfl rfl (v_move rfl rfl) ?_
    refine s_gval rfl rfl rfl (by first | exact w_tt rfl | exact w_gt rfl) (fun hc => v_fa fa77_0 rfl (by first | exact gve hc rfl | exact gve (and_l hc) rfl | exact gve (and_l (and_l hc)) rfl | rfl)) ?_
    refine s_gval rfl rfl rfl (by first | exact w_tt rfl | exact w_gt rfl) (fun hc => v_load1 rfl (by first | exact gve hc rfl | exact gve (and_l hc) rfl | exact gve (and_l (and_l hc)) rfl | rfl) Try.underlying9 rfl (cx.cell 0 rfl rfl)) ?_
    refine s_gval rfl rfl rfl (by first | exact w_tt rfl | exact w_gt rfl) (fun hc => v_move rfl hs1) ?_
    refine s_gval rfl rfl rfl (by first | exact w_tt rfl | exact w_gt rfl) (fun hc => v_strEq rfl (by first | exact gve hc rfl | exact gve (and_l hc) rfl | exact gve (and_l (and_l hc)) rfl | rfl) (by first | exact gve hc rfl | exact gve (and_l hc) rfl | exact gve (and_l (and_l hc)) rfl | rfl)) ?_
    refine s_val rfl rfl (v_and rfl rfl rfl rfl) ?_
    refine wpList_nil ?_
    refine c_split rfl (fun hc23 => ?_) (fun hc23 => ?_)
    · skip
      try simp only [Bool.and_eq_true, Bool.or_eq_true, Bool.and_eq_false_iff, Bool.or_eq_false_iff, Bool.not_eq_true', Bool.not_eq_false', decide_eq_true_eq, decide_eq_false_iff_not, beq_iff_eq, beq_eq_false_iff_ne, bne_iff_ne, bne_eq_false_iff_eq, ne_eq, Classical.not_not] at hc23
      replace hc23 := hc23.2
      refine wp_seq ?_
      refine wp_region_lit ?_
      refine s_val rfl rfl (v_fa fa77_1 rfl rfl) ?_
      refine s_val rfl rfl (v_load rfl rfl Try.underlying33 rfl sz33 ((cx.row 0 rfl).rv 1 rfl) rfl) ?_
      have cxc := cx
      refine s_fn cx (c88 kk _ _ _ _ (hd.2 _ (List.getElem_mem _)) (by omega) (by omega) (hrv.up cx.ext) (hf.field (List.getElem_mem _)).2) Try.func88 rfl rfl rfl rfl rfl rfl ?_; intro q26 w cx hw26 hp26
      have hKn := Kp.fr hw26
      obtain ⟨r26, rfl, hm⟩ := hp26.rep
      refine s_storeAllG cx 1 rfl rfl rfl hs4 rfl rfl (by rw [hm.len]; exact sz33) (by rw [hm.len]; rfl) hm.one ?_; intro w cx hg4
      replace hKn := hKn.grown hg4 (fun b hb e => by have h1 := (cxc.lts b4 (by simp)).2; have h2 := hb.1; simp at e; omega)
      refine s_val rfl rfl (v_assign rfl rfl) ?_
      refine wpList_nil ?_
      refine wp_ret ?_
      refine ret_cell2 Try.results80 hs4 rfl (cx.at 1 rfl) Try.underlying33 rfl (by rw [hm.len]; exact sz33) ⟨cx.ext, ?_⟩
      rw [hasF_take hno (by omega) hc23]
      exact ⟨_, _, rfl, hm.len, hm.one, rfl, hp26.up cxc.ext.size hKn⟩
    · skip
      try simp only [Bool.and_eq_true, Bool.or_eq_true, Bool.and_eq_false_iff, Bool.or_eq_false_iff, Bool.not_eq_true', Bool.not_eq_false', decide_eq_true_eq, decide_eq_false_iff_not, beq_iff_eq, beq_eq_false_iff_ne, bne_iff_ne, bne_eq_false_iff_eq, ne_eq, Classical.not_not] at hc23
      have hne : v.fields[i].1 ≠ key := by
        rcases hc23 with h | h
        · exact absurd (h7.resolve_right fun e => absurd (show 0 < v.fields.length by omega) (by rw [e]; exact Nat.lt_irrefl 0)) h
        · exact h
      refine wp_skip ?_
      refine wp_region_lit ?_
      refine s_val rfl rfl (v_add rfl hs11 rfl (by omega) (by omega)) ?_
      refine s_val rfl rfl (v_move rfl rfl) ?_
      refine wpList_nil ?_
      refine ⟨gk2 - 1, _, by omega, rfl, i + 1, by omega, hs1, hs2, hs4, hs9, hs10, rfl, by simpa using cx.drop 1, fun j hj kv hkv => ?_⟩
      rcases Nat.lt_or_ge j i with h | h
      · exact hno j h kv hkv
      · obtain rfl : j = i := by omega
        rw [List.getElem?_eq_getElem (by omega)] at hkv
        obtain rfl := Option.some.inj hkv
        exact hne
  · skip
    try simp only [Bool.and_eq_true, Bool.or_eq_true, Bool.and_eq_false_iff, Bool.or_eq_false_iff, Bool.not_eq_true', Bool.not_eq_false', decide_eq_true_eq, decide_eq_false_iff_not, beq_iff_eq, beq_eq_false_iff_ne, bne_iff_ne, bne_eq_false_iff_eq, ne_eq, Classical.not_not] at hc12
    refine wp_exit ?_
    refine wp_seq ?_
    refine wp_region_lit ?_
    refine s_val rfl rfl (v_build bd33 rfl rfl) ?_
    refine s_storeAllG cx 0 rfl rfl rfl hs4 rfl rfl sz33 rfl rfl ?_; intro w cx hg4
    refine s_val rfl rfl (v_assign rfl rfl) ?_
    refine wpList_nil ?_
    refine wp_ret ?_
    refine ret_cell2 Try.results80 hs4 rfl (cx.at 0 rfl) Try.underlying33 rfl sz33 ⟨cx.ext, ?_⟩
    rw [hasF_none (fun j kv hj => hno j (by have := (List.getElem?_eq_some_iff.1 hj).1; omega) kv hj)]
    exact ⟨_, _, rfl, rfl, rfl, rfl⟩


theorem bd112k (k : ByteArray) (w : World) : (Instr.build 112 ([(1, .string k)] : List (Nat × Value)).toArray).run Try.prog w = .ok (.agg (srow (keyS k)).toArray) w := by
  unfold srow keyS
  go_simp
theorem bd112i (i : Int) (w : World) : (Instr.build 112 ([(0, .bool true), (2, .int .i64 i)] : List (Nat × Value)).toArray).run Try.prog w = .ok (.agg #[.bool true, .string ByteArray.empty, .int .i64 i]) w := by
  go_simp
  rfl
theorem eqg112 : Try.prog.eqGuardType Try.prog.depth 112 = false := by kernel_rfl
theorem ne112 (a1 b1 : Bool) (a2 b2 : ByteArray) (a3 b3 : Int) (w : World) :
    (binOp .neq 112 (.agg #[.bool a1, .string a2, .int .i64 a3]) (.agg #[.bool b1, .string b2, .int .i64 b3])).run Try.prog w = .ok (.bool (!(a1 == b1 && (decide (a2 = b2) && a3 == b3)))) w := by
  go_simp
  by_cases h1 : a1 = b1 <;> by_cases h2 : a2 = b2 <;> by_cases h3 : a3 = b3 <;> simp [h1, h2, h3, toList_inj]
theorem path_one {w : World} {g : Nat} {s : Stp} (h : RowAt w g 0 (srow s)) : PthA (fun b => b = g) w (.slice (some ⟨g, 0, none⟩) 1 1) [s] :=
  ⟨g, 0, .inr ⟨_, 1, rfl, by simp, fun _ => ⟨rfl, rfl⟩⟩, fun i x hx => by
    cases i with
    | zero => obtain rfl : s = x := by simpa using hx
              simpa using h
    | succ i => simp at hx⟩

set_option maxRecDepth 10000 in
theorem c84 (A : Nat → Prop) (l1 l2 : List Stp) (s1 s2 : Value) (w0 : World) (hA : ∀ b, A b → b < w0.heap.size) (h1 : PthA A w0 s1 l1) (h2 : PthA A w0 s2 l2) (hl : l1.length + l2.length ≤ 1000) : Fc Try.prog 84 [s1, s2] w0 (fun x w' => PthA (Fr w0 w') w' x (l1 ++ l2)) := by
  refine ret_enter Try.func84 rfl Try.ntmps84 rfl ?_
  have cx := Ctx.start w0
  refine wp_seq ?_
  refine wp_region_lit ?_
  refine s_val rfl rfl (v_assign rfl rfl) ?_
  refine wpList_nil ?_
  refine wp_seq ?_
  refine wp_region_lit ?_
  refine s_val rfl rfl (v_move rfl rfl) ?_
  replace cx := cx.nilRow 112 3
  refine s_appendS cx ei112 Try.underlying24 rfl rfl rfl rfl rfl (src_path (h1.mono (fun _ h => h) (fun b hb => cx.ext.block b (hA b hb)))) (flatS_length _) (flatS_one _) (by omega) ?_; intro v7 w cx hgr7 hnw7
  refine s_val rfl rfl (v_assign rfl rfl) ?_
  refine wpList_nil ?_
  refine wp_seq ?_
  refine wp_region_lit ?_
  refine s_val rfl rfl (v_move rfl rfl) ?_
  refine s_val rfl rfl (v_move rfl rfl) ?_
  refine s_appendS cx ei112 Try.underlying24 rfl rfl rfl rfl rfl (src_path (h2.mono (fun _ h => h) (fun b hb => cx.ext.block b (hA b hb)))) (flatS_length _) (flatS_one _) (by omega) ?_; intro v10 w cx hgr10 hnw10
  refine s_val rfl rfl (v_assign rfl rfl) ?_
  refine wpList_nil ?_
  refine wp_ret ?_
  refine ret_tmp Try.results84 rfl ?_
  refine ⟨cx.ext, ?_⟩
  have hrow := cx.head
  have e : [] ++ l1.flatMap srow ++ l2.flatMap srow = (l1 ++ l2).flatMap srow := by rw [List.nil_append, List.flatMap_append]
  simp only at hrow
  rw [e] at hrow
  exact (path_of_row hrow (by rw [List.length_append]; omega)).mono (fun b hb => Made_lt cx.head b hb) (fun _ _ => rfl)

set_option maxRecDepth 10000 in
theorem c119 (A : Nat → Prop) (l1 l2 : List Stp) (s1 s2 : Value) (w0 : World) (hA : ∀ b, A b → b < w0.heap.size) (h1 : PthA A w0 s1 l1) (h2 : PthA A w0 s2 l2) (hl : l1.length + l2.length ≤ 1000) : Fc Try.prog 119 [s1, s2] w0 (fun x w' => PthA (Fr w0 w') w' x (l1 ++ l2)) := by
  refine ret_enter Try.func119 rfl Try.ntmps119 rfl ?_
  have cx := Ctx.start w0
  refine wp_seq ?_
  refine wp_region_lit ?_
  refine s_val rfl rfl (v_assign rfl rfl) ?_
  refine wpList_nil ?_
  refine wp_seq ?_
  refine wp_region_lit ?_
  refine s_bsl0 cx Try.underlying24 sz112 rfl rfl rfl ?_; intro b5 w cx hb5 hw5
  replace cx := cx.toRow (k := 0) (size := 3) (cs := []) rfl (by decide)
  refine s_val rfl rfl (v_move rfl rfl) ?_
  refine s_appendS cx ei112 Try.underlying24 rfl rfl rfl rfl rfl (src_path (h1.mono (fun _ h => h) (fun b hb => cx.ext.block b (hA b hb)))) (flatS_length _) (flatS_one _) (by omega) ?_; intro v7 w cx hgr7 hnw7
  refine s_val rfl rfl (v_move rfl rfl) ?_
  refine s_appendS cx ei112 Try.underlying24 rfl rfl rfl rfl rfl (src_path (h2.mono (fun _ h => h) (fun b hb => cx.ext.block b (hA b hb)))) (flatS_length _) (flatS_one _) (by omega) ?_; intro v10 w cx hgr10 hnw10
  refine s_val rfl rfl (v_assign rfl rfl) ?_
  refine wpList_nil ?_
  refine wp_ret ?_
  refine ret_tmp Try.results119 rfl ?_
  refine ⟨cx.ext, ?_⟩
  have hrow := cx.head
  have e : [] ++ l1.flatMap srow ++ l2.flatMap srow = (l1 ++ l2).flatMap srow := by rw [List.nil_append, List.flatMap_append]
  simp only at hrow
  rw [e] at hrow
  exact (path_of_row hrow (by rw [List.length_append]; omega)).mono (fun b hb => Made_lt cx.head b hb) (fun _ _ => rfl)

set_option maxRecDepth 10000 in
theorem c82 (k : ByteArray) (w0 : World) : Fc Try.prog 82 [.string k] w0 (fun x _ => x = .agg (srow (keyS k)).toArray) := by
  refine ret_enter Try.func82 rfl Try.ntmps82 rfl ?_
  have cx := Ctx.start w0
  refine wp_seq ?_
  refine wp_region_lit ?_
  refine s_alloc cx z112 rfl rfl rfl ?_; intro b2 w cx hb2 hw2
  refine wpList_nil ?_
  refine wp_seq ?_
  refine wp_region_lit ?_
  refine s_val rfl rfl (v_move rfl rfl) ?_
  refine s_val rfl rfl (v_build (bd112k _) rfl rfl) ?_
  refine s_storeAllG cx 0 rfl rfl rfl rfl rfl rfl sz112 rfl rfl ?_; intro w cx hg2
  refine wpList_nil ?_
  refine wp_ret ?_
  exact ret_cell Try.results82 rfl (cx.at 0 rfl) Try.underlying112 rfl sz112 ⟨cx.ext, rfl⟩

set_option maxRecDepth 10000 in
theorem c83 (i : Nat) (w0 : World) : Fc Try.prog 83 [.int .i64 i] w0 (fun x _ => x = .agg (srow (idxS i)).toArray) := by
  refine ret_enter Try.func83 rfl Try.ntmps83 rfl ?_
  have cx := Ctx.start w0
  refine wp_seq ?_
  refine wp_region_lit ?_
  refine s_alloc cx z112 rfl rfl rfl ?_; intro b2 w cx hb2 hw2
  refine wpList_nil ?_
  refine wp_seq ?_
  refine wp_region_lit ?_
  refine s_val rfl rfl (v_move rfl rfl) ?_
  refine s_val rfl rfl (v_build (bd112i _) rfl rfl) ?_
  refine s_storeAllG cx 0 rfl rfl rfl rfl rfl rfl sz112 rfl rfl ?_; intro w cx hg2
  refine wpList_nil ?_
  refine wp_ret ?_
  exact ret_cell Try.results83 rfl (cx.at 0 rfl) Try.underlying112 rfl sz112 ⟨cx.ext, rfl⟩

set_option maxRecDepth 10000 in
theorem c81 (st : Stp) (A : Nat → Prop) (l1 : List Stp) (s1 : Value) (w0 : World) (hA : ∀ b, A b → b < w0.heap.size) (h1 : PthA A w0 s1 l1) (hl : l1.length + 1 ≤ 1000) : Fc Try.prog 81 [s1, .agg (srow st).toArray] w0 (fun x w' => PthA (Fr w0 w') w' x (l1 ++ [st])) := by
  refine ret_enter Try.func81 rfl Try.ntmps81 rfl ?_
  have cx := Ctx.start w0
  refine wp_seq ?_
  refine wp_region_lit ?_
  refine s_box cx rfl rfl rfl rfl rfl ?_; intro b3 w cx hb3 hw3
  refine s_val rfl rfl (v_assign rfl rfl) ?_
  refine wpList_nil ?_
  refine wp_seq ?_
  refine wp_region_lit ?_
  refine s_val rfl rfl (v_move rfl rfl) ?_
  refine s_val rfl rfl (v_load rfl rfl Try.underlying112 rfl sz112 (cx.row 0 rfl) rfl) ?_
  refine s_bsl1 cx Try.underlying24 sz112 z112 rfl rfl rfl rfl rfl rfl rfl rfl ?_; intro b7 w cx hb7 hw7
  have cxc := cx
  refine s_fn cx (c84 (fun b => A b ∨ b = b7) l1 [st] _ _ _ (fun b hb => hb.elim (fun h => Nat.lt_of_lt_of_le (hA b h) cx.ext.size) (fun h => by rw [h]; exact (cx.lts b7 (by simp)).2)) (h1.mono (fun _ h => .inl h) (fun b hb => cx.ext.block b (hA b hb))) ((path_one (cx.row 0 rfl)).mono (fun _ h => .inr h) (fun _ _ => rfl)) (by simpa using hl)) Try.func84 rfl rfl rfl rfl rfl rfl ?_; intro q8 w cx hw8 hp8
  refine s_val rfl rfl (v_assign rfl rfl) ?_
  refine wpList_nil ?_
  refine wp_ret ?_
  refine ret_tmp Try.results81 rfl ?_
  exact ⟨cx.ext, hp8.mono (fun b hb => ⟨Nat.le_trans cxc.ext.size hb.1, hb.2⟩) (fun _ _ => rfl)⟩

set_option maxRecDepth 10000 in
theorem c85 (i : Nat) (A : Nat → Prop) (l1 : List Stp) (s1 : Value) (w0 : World) (hA : ∀ b, A b → b < w0.heap.size) (h1 : PthA A w0 s1 l1) (hl : l1.length + 1 ≤ 1000) : Fc Try.prog 85 [s1, .int .i64 i] w0 (fun x w' => PthA (Fr w0 w') w' x (l1 ++ [idxS i])) := by
  refine ret_enter Try.func85 rfl Try.ntmps85 rfl ?_
  have cx := Ctx.start w0
  refine wp_seq ?_
  refine wp_region_lit ?_
  refine s_val rfl rfl (v_assign rfl rfl) ?_
  refine wpList_nil ?_
  refine wp_seq ?_
  refine wp_region_lit ?_
  refine s_val rfl rfl (v_move rfl rfl) ?_
  refine s_val rfl rfl (v_move rfl rfl) ?_
  refine s_val rfl rfl (v_build (bd112i _) rfl rfl) ?_
  refine s_bsl1 cx Try.underlying24 sz112 z112 rfl rfl rfl rfl rfl rfl rfl rfl ?_; intro b8 w cx hb8 hw8
  have cxc := cx
  refine s_fn cx (c119 (fun b => A b ∨ b = b8) l1 [idxS i] _ _ _ (fun b hb => hb.elim (fun h => Nat.lt_of_lt_of_le (hA b h) cx.ext.size) (fun h => by rw [h]; exact (cx.lts b8 (by simp)).2)) (h1.mono (fun _ h => .inl h) (fun b hb => cx.ext.block b (hA b hb))) ((path_one (cx.row 0 rfl)).mono (fun _ h => .inr h) (fun _ _ => rfl)) (by simpa using hl)) Try.func119 rfl rfl rfl rfl rfl rfl ?_; intro q9 w cx hw9 hp9
  refine s_val rfl rfl (v_assign rfl rfl) ?_
  refine wpList_nil ?_
  refine wp_ret ?_
  refine ret_tmp Try.results85 rfl ?_
  exact ⟨cx.ext, hp9.mono (fun b hb => ⟨Nat.le_trans cxc.ext.size hb.1, hb.2⟩) (fun _ _ => rfl)⟩

set_option maxRecDepth 10000 in
theorem c87 (k : ByteArray) (A : Nat → Prop) (l1 : List Stp) (s1 : Value) (w0 : World) (hA : ∀ b, A b → b < w0.heap.size) (h1 : PthA A w0 s1 l1) (hl : l1.length + 1 ≤ 1000) : Fc Try.prog 87 [s1, .string k] w0 (fun x w' => PthA (Fr w0 w') w' x (l1 ++ [keyS k])) := by
  refine ret_enter Try.func87 rfl Try.ntmps87 rfl ?_
  have cx := Ctx.start w0
  refine wp_seq ?_
  refine wp_region_lit ?_
  refine s_val rfl rfl (v_assign rfl rfl) ?_
  refine wpList_nil ?_
  refine wp_seq ?_
  refine wp_region_lit ?_
  refine s_val rfl rfl (v_move rfl rfl) ?_
  refine s_val rfl rfl (v_move rfl rfl) ?_
  refine s_val rfl rfl (v_build (bd112k _) rfl rfl) ?_
  refine s_bsl1 cx Try.underlying24 sz112 z112 rfl rfl rfl rfl rfl rfl rfl rfl ?_; intro b8 w cx hb8 hw8
  have cxc := cx
  refine s_fn cx (c119 (fun b => A b ∨ b = b8) l1 [keyS k] _ _ _ (fun b hb => hb.elim (fun h => Nat.lt_of_lt_of_le (hA b h) cx.ext.size) (fun h => by rw [h]; exact (cx.lts b8 (by simp)).2)) (h1.mono (fun _ h => .inl h) (fun b hb => cx.ext.block b (hA b hb))) ((path_one (cx.row 0 rfl)).mono (fun _ h => .inr h) (fun _ _ => rfl)) (by simpa using hl)) Try.func119 rfl rfl rfl rfl rfl rfl ?_; intro q9 w cx hw9 hp9
  refine s_val rfl rfl (v_assign rfl rfl) ?_
  refine wpList_nil ?_
  refine wp_ret ?_
  refine ret_tmp Try.results87 rfl ?_
  exact ⟨cx.ext, hp9.mono (fun b hb => ⟨Nat.le_trans cxc.ext.size hb.1, hb.2⟩) (fun _ _ => rfl)⟩

set_option maxRecDepth 10000 in
theorem c86 (A : Nat → Prop) (v : V) (r : List Value) (key : ByteArray) (w0 : World) (hA : ∀ b, A b → b < w0.heap.size) (hv : RepV A w0 v r) (hl : v.fields.length ≤ 1048576) : Fc Try.prog 86 [.agg r.toArray, .string key] w0 (fun x w' => ∃ l : List Value, x = .tuple #[.agg l.toArray, .bool (hasF key v.fields).isSome] ∧ RepV A w' ((hasF key v.fields).getD nulV) l) := by
  obtain ⟨bs, ls, fs, rfl, hbs, hls, hfs⟩ := RepV.open hv
  obtain ⟨fb, fo, hfl, hfreps⟩ := id hfs
  obtain ⟨fa, fc, rfl, hfa⟩ := hfl.form
  have hfget := fun i kv h => RepFs.get v.fields fo i kv hfreps h
  refine ret_enter Try.func86 rfl Try.ntmps86 rfl ?_
  have cx := Ctx.start w0
  refine wp_seq ?_
  refine wp_region_lit ?_
  refine s_box cx rfl rfl rfl rfl rfl ?_; intro b2 w cx hb2 hw2
  refine s_alloc cx z33 rfl rfl rfl ?_; intro b4 w cx hb4 hw4
  refine s_val rfl rfl (v_assign rfl rfl) ?_
  refine wpList_nil ?_
  refine wp_seq ?_
  refine wp_seq ?_
  refine wp_region_lit ?_
  refine s_val rfl rfl (v_assign rfl rfl) ?_
  refine wpList_nil ?_
  refine wp_block ?_
  refine w_loop (fun k f w1 => ∃ i : Nat, k + i = v.fields.length ∧ f 1 = .string key ∧ f 2 = .pointer (some ⟨b2, 0, none⟩) ∧ f 4 = .pointer (some ⟨b4, 0, none⟩) ∧ f 6 = .int .i64 i ∧ Cxr w0 w1 [(b4, .cells ([.int .i64 0, .bool false, .bool false, .string ByteArray.empty, .int .i64 0, .int .i64 0, .int .i64 0, .int .i64 0, .int .i64 0, .string ByteArray.empty, .slice none 0 0, .slice none 0 0, .slice none 0 0] : List Value).toArray 33), (b2, .cells (vrow v.sc bs ls (.slice fa v.fields.length fc)).toArray 33)] [] ∧ ∀ j, j < i → ∀ kv, v.fields[j]? = some kv → kv.1 ≠ key) (v.fields.length) ?_ ?_
  · skip
    exact ⟨0, by omega, rfl, rfl, rfl, rfl, cx, fun j hj => by omega⟩
  intro gk2 f w hJ
  obtain ⟨i, hki, hs1, hs2, hs4, hs6, cx, hno⟩ := hJ
  refine wp_seq ?_
  refine wp_seq ?_
  refine wp_region_lit ?_
  refine s_val rfl rfl (v_move rfl hs6) ?_
  refine s_val rfl rfl (v_fa fa33_7 rfl hs2) ?_
  refine s_val rfl rfl (v_load1 rfl rfl Try.underlying31 rfl (cx.cell 1 rfl rfl)) ?_
  refine s_val rfl rfl (v_lenSlice rfl rfl Try.underlying31) ?_
  refine s_val rfl rfl (v_cmp rfl rfl rfl rfl) ?_
  refine wpList_nil ?_
  refine c_split rfl (fun hc11 => ?_) (fun hc11 => ?_)
  · skip
    try simp only [Bool.and_eq_true, Bool.or_eq_true, Bool.and_eq_false_iff, Bool.or_eq_false_iff, Bool.not_eq_true', Bool.not_eq_false', decide_eq_true_eq, decide_eq_false_iff_not, beq_iff_eq, beq_eq_false_iff_ne, bne_iff_ne, bne_eq_false_iff_eq, ne_eq, Classical.not_not] at hc11
    obtain rfl := hfa (by omega)
    obtain ⟨r, hr, hrv⟩ := hfget i v.fields[i] (List.getElem?_eq_getElem (by omega))
    have hrA := hfl.inA (by omega)
    refine wp_skip ?_
    refine wp_seq ?_
    refine wp_block ?_
    refine wp_seq ?_
    refine wp_region_lit ?_
    refine s_val rfl rfl (v_fa fa33_7 rfl hs2) ?_
    refine s_val rfl rfl (v_load1 rfl rfl Try.underlying31 rfl (cx.cell 1 rfl rfl)) ?_
    refine s_val rfl rfl (v_move rfl hs6) ?_
    refine s_val rfl rfl (v_ia Try.underlying31 sz77 rfl rfl rfl (by omega) (by omega)) ?_
    refine s_val rfl rfl (v_fa fa77_0 rfl rfl) ?_
    refine s_val rfl rfl (v_load1 rfl rfl Try.underlying9 rfl ((hr.keep (cx.ext.block _ (hA _ hrA))).cell 0 rfl)) ?_
    refine s_val rfl rfl (v_move rfl hs1) ?_
    refine s_val rfl rfl (v_strEq rfl rfl rfl) ?_
    refine wpList_nil ?_
    refine c_split rfl (fun hc21 => ?_) (fun hc21 => ?_)
    · skip
      try simp only [Bool.and_eq_true, Bool.or_eq_true, Bool.and_eq_false_iff, Bool.or_eq_false_iff, Bool.not_eq_true', Bool.not_eq_false', decide_eq_true_eq, decide_eq_false_iff_not, beq_iff_eq, beq_eq_false_iff_ne, bne_iff_ne, bne_eq_false_iff_eq, ne_eq, Classical.not_not] at hc21
      refine wp_seq ?_
      refine wp_region_lit ?_
      refine s_val rfl rfl (v_fa fa33_7 rfl hs2) ?_
      refine s_val rfl rfl (v_load1 rfl rfl Try.underlying31 rfl (cx.cell 1 rfl rfl)) ?_
      refine s_val rfl rfl (v_move rfl hs6) ?_
      refine s_val rfl rfl (v_ia Try.underlying31 sz77 rfl rfl rfl (by omega) (by omega)) ?_
      refine s_val rfl rfl (v_fa fa77_1 rfl rfl) ?_
      refine s_val rfl rfl (v_load rfl rfl Try.underlying33 rfl sz33 ((hr.keep (cx.ext.block _ (hA _ hrA))).tail) hrv.len) ?_
      refine s_storeAllG cx 0 rfl rfl rfl hs4 rfl rfl (by rw [hrv.len]; exact sz33) (by rw [hrv.len]; rfl) hrv.one ?_; intro w cx hg4
      refine s_val rfl rfl (v_assign rfl rfl) ?_
      refine wpList_nil ?_
      refine wp_ret ?_
      refine ret_cell2 Try.results86 hs4 rfl (cx.at 0 rfl) Try.underlying33 rfl (by rw [hrv.len]; exact sz33) ⟨cx.ext, r, ?_⟩
      rw [hasF_take hno (by omega) hc21]
      exact ⟨rfl, RepV.mono (fun _ h => h) (fun b hb => cx.ext.block b (hA b hb)) _ _ hrv⟩
    · skip
      try simp only [Bool.and_eq_true, Bool.or_eq_true, Bool.and_eq_false_iff, Bool.or_eq_false_iff, Bool.not_eq_true', Bool.not_eq_false', decide_eq_true_eq, decide_eq_false_iff_not, beq_iff_eq, beq_eq_false_iff_ne, bne_iff_ne, bne_eq_false_iff_eq, ne_eq, Classical.not_not] at hc21
      refine wp_skip ?_
      refine wp_region_lit ?_
      refine s_val rfl rfl (v_move rfl hs6) ?_
      refine s_val rfl rfl (v_add rfl rfl rfl (by omega) (by omega)) ?_
      refine s_val rfl rfl (v_assign rfl rfl) ?_
      refine wpList_nil ?_
      refine ⟨gk2 - 1, _, by omega, rfl, i + 1, by omega, hs1, hs2, hs4, rfl, cx, fun j hj kv hkv => ?_⟩
      rcases Nat.lt_or_ge j i with h | h
      · exact hno j h kv hkv
      · obtain rfl : j = i := by omega
        rw [List.getElem?_eq_getElem (by omega)] at hkv
        obtain rfl := Option.some.inj hkv
        exact hc21
  · skip
    try simp only [Bool.and_eq_true, Bool.or_eq_true, Bool.and_eq_false_iff, Bool.or_eq_false_iff, Bool.not_eq_true', Bool.not_eq_false', decide_eq_true_eq, decide_eq_false_iff_not, beq_iff_eq, beq_eq_false_iff_ne, bne_iff_ne, bne_eq_false_iff_eq, ne_eq, Classical.not_not] at hc11
    refine wp_exit ?_
    refine wp_seq ?_
    refine wp_region_lit ?_
    refine s_val rfl rfl (v_build bd33 rfl rfl) ?_
    refine s_storeAllG cx 0 rfl rfl rfl hs4 rfl rfl sz33 rfl rfl ?_; intro w cx hg4
    refine s_val rfl rfl (v_assign rfl rfl) ?_
    refine wpList_nil ?_
    refine wp_ret ?_
    refine ret_cell2 (l := vrow (zk 0) (.slice none 0 0) (.slice none 0 0) (.slice none 0 0)) Try.results86 hs4 rfl (cx.at 0 rfl) Try.underlying33 rfl sz33 ⟨cx.ext, vrow (zk 0) (.slice none 0 0) (.slice none 0 0) (.slice none 0 0), ?_⟩
    rw [hasF_none (fun j kv hj => hno j (by have := (List.getElem?_eq_some_iff.1 hj).1; omega) kv hj)]
    exact ⟨rfl, rep_nul⟩

set_option maxRecDepth 10000 in
theorem c57 (A : Nat → Prop) (p : List Stp) (s1 s2 : Value) (w0 : World) (hA : ∀ b, A b → b < w0.heap.size) (h1 : PthA A w0 s1 p) (h2 : PthA A w0 s2 p) (hl : p.length ≤ 1048576) : Fc Try.prog 57 [s1, s2] w0 (IsB fun b => b = true) := by
  obtain ⟨b1, o1, hsl1, hg1⟩ := h1
  obtain ⟨b2, o2, hsl2, hg2⟩ := h2
  obtain ⟨a1, c1, rfl, hfa1⟩ := hsl1.form
  obtain ⟨a2, c2, rfl, hfa2⟩ := hsl2.form
  refine ret_enter Try.func57 rfl Try.ntmps57 rfl ?_
  have cx := Ctx.start w0
  refine wp_seq ?_
  refine wp_region_lit ?_
  refine s_val rfl rfl (v_assign rfl rfl) ?_
  refine wpList_nil ?_
  refine wp_seq ?_
  refine wp_seq ?_
  refine wp_region_lit ?_
  refine s_val rfl rfl (v_move rfl rfl) ?_
  refine s_val rfl rfl (v_lenSlice rfl rfl Try.underlying24) ?_
  refine s_val rfl rfl (v_move rfl rfl) ?_
  refine s_val rfl rfl (v_lenSlice rfl rfl Try.underlying24) ?_
  refine s_val rfl rfl (v_cmp rfl rfl rfl rfl) ?_
  refine wpList_nil ?_
  refine c_split rfl (fun hc10 => ?_) (fun hc10 => ?_)
  · skip
    exfalso
    simp at hc10
  · skip
    skip
    refine wp_skip ?_
    refine wp_seq ?_
    refine wp_seq ?_
    refine wp_region_lit ?_
    refine s_val rfl rfl (v_assign rfl rfl) ?_
    refine wpList_nil ?_
    refine wp_block ?_
    refine w_loop (fun k f w1 => ∃ i : Nat, k + i = p.length ∧ f 0 = .slice a1 p.length c1 ∧ f 1 = .slice a2 p.length c2 ∧ f 5 = .int .i64 i ∧ Ctx w0 w1 []) (p.length) ?_ ?_
    · skip
      exact ⟨0, by omega, rfl, rfl, rfl, cx⟩
    intro gk4 f w hJ
    obtain ⟨i, hki, hs0, hs1, hs5, cx⟩ := hJ
    refine wp_seq ?_
    refine wp_seq ?_
    refine wp_region_lit ?_
    refine s_val rfl rfl (v_move rfl hs5) ?_
    refine s_val rfl rfl (v_move rfl hs0) ?_
    refine s_val rfl rfl (v_lenSlice rfl rfl Try.underlying24) ?_
    refine s_val rfl rfl (v_cmp rfl rfl rfl rfl) ?_
    refine wpList_nil ?_
    refine c_split rfl (fun hc14 => ?_) (fun hc14 => ?_)
    · skip
      try simp only [Bool.and_eq_true, Bool.or_eq_true, Bool.and_eq_false_iff, Bool.or_eq_false_iff, Bool.not_eq_true', Bool.not_eq_false', decide_eq_true_eq, decide_eq_false_iff_not, beq_iff_eq, beq_eq_false_iff_ne, bne_iff_ne, bne_eq_false_iff_eq, ne_eq, Classical.not_not] at hc14
      have hx : p[i]? = some p[i] := List.getElem?_eq_getElem (by omega)
      obtain rfl := hfa1 (by omega)
      obtain rfl := hfa2 (by omega)
      have hr1 := hg1 i _ hx
      have hr2 := hg2 i _ hx
      have hA1 := hsl1.inA (by omega)
      have hA2 := hsl2.inA (by omega)
      refine wp_skip ?_
      refine wp_seq ?_
      refine wp_block ?_
      refine wp_seq ?_
      refine w_quiet cx mixed (by kernel_rfl) ?_
      skip
      refine q_val rfl rfl (fun w cx hwQ => v_move rfl hs0) ?_
      refine q_val rfl rfl (fun w cx hwQ => v_move rfl hs5) ?_
      refine q_val rfl rfl (fun w cx hwQ => v_ia Try.underlying24 sz112 rfl rfl rfl (by omega) (by omega)) ?_
      refine q_val rfl rfl (fun w cx hwQ => v_load rfl rfl Try.underlying112 rfl sz112 (hr1.keep (cx.ext.block _ (hA _ hA1))) rfl) ?_
      refine q_val rfl rfl (fun w cx hwQ => v_move rfl hs1) ?_
      refine q_val rfl rfl (fun w cx hwQ => v_move rfl hs5) ?_
      refine q_val rfl rfl (fun w cx hwQ => v_ia Try.underlying24 sz112 rfl rfl rfl (by omega) (by omega)) ?_
      refine q_val rfl rfl (fun w cx hwQ => v_load rfl rfl Try.underlying112 rfl sz112 (hr2.keep (cx.ext.block _ (hA _ hA2))) rfl) ?_
      refine q_val rfl rfl (fun w cx hwQ => v_agg eqg112 (ne112 _ _ _ _ _ _) rfl rfl rfl) ?_
      refine q_nil ?_; rintro w ⟨cx, hwQ6⟩
      refine c_split rfl (fun hc25 => ?_) (fun hc25 => ?_)
      · skip
        exfalso
        simp at hc25
      · skip
        skip
        refine wp_skip ?_
        refine wp_region_lit ?_
        refine s_val rfl rfl (v_move rfl hs5) ?_
        refine s_val rfl rfl (v_add rfl rfl rfl (by omega) (by omega)) ?_
        refine s_val rfl rfl (v_assign rfl rfl) ?_
        refine wpList_nil ?_
        exact ⟨gk4 - 1, _, by omega, rfl, i + 1, by omega, hs0, hs1, rfl, cx⟩
    · skip
      try simp only [Bool.and_eq_true, Bool.or_eq_true, Bool.and_eq_false_iff, Bool.or_eq_false_iff, Bool.not_eq_true', Bool.not_eq_false', decide_eq_true_eq, decide_eq_false_iff_not, beq_iff_eq, beq_eq_false_iff_ne, bne_iff_ne, bne_eq_false_iff_eq, ne_eq, Classical.not_not] at hc14
      refine wp_exit ?_
      refine wp_seq ?_
      refine wp_region_lit ?_
      refine s_val rfl rfl (v_assign rfl rfl) ?_
      refine wpList_nil ?_
      refine wp_ret ?_
      refine ret_tmp Try.results57 rfl ?_
      exact ⟨cx.ext, _, rfl, rfl⟩

set_option maxRecDepth 10000 in
theorem c29 (A : Nat → Prop) (ps : List (List Stp)) (cs1 cs2 : List Value) (a1 a2 : Option Addr) (c1 c2 g1 g2 : Nat) (w0 : World) (hA : ∀ b, A b → b < w0.heap.size) (ha1 : 0 < ps.length → a1 = some ⟨g1, 0, none⟩ ∧ RowAt w0 g1 0 cs1) (ha2 : 0 < ps.length → a2 = some ⟨g2, 0, none⟩ ∧ RowAt w0 g2 0 cs2) (h1 : PthsC A w0 ps cs1) (h2 : PthsC A w0 ps cs2) (hl : ps.length ≤ 1048576) (hpl : ∀ p ∈ ps, p.length ≤ 1048576) : Fc Try.prog 29 [.slice a1 ps.length c1, .slice a2 ps.length c2] w0 (IsB fun b => b = true) := by
  refine ret_enter Try.func29 rfl Try.ntmps29 rfl ?_
  have cx := Ctx.start w0
  refine wp_seq ?_
  refine wp_region_lit ?_
  refine s_val rfl rfl (v_assign rfl rfl) ?_
  refine wpList_nil ?_
  refine wp_seq ?_
  refine wp_seq ?_
  refine wp_region_lit ?_
  refine s_val rfl rfl (v_move rfl rfl) ?_
  refine s_val rfl rfl (v_lenSlice rfl rfl Try.underlying46) ?_
  refine s_val rfl rfl (v_move rfl rfl) ?_
  refine s_val rfl rfl (v_lenSlice rfl rfl Try.underlying46) ?_
  refine s_val rfl rfl (v_cmp rfl rfl rfl rfl) ?_
  refine wpList_nil ?_
  refine c_split rfl (fun hc10 => ?_) (fun hc10 => ?_)
  · skip
    exfalso
    simp at hc10
  · skip
    skip
    refine wp_skip ?_
    refine wp_seq ?_
    refine wp_seq ?_
    refine wp_region_lit ?_
    refine s_val rfl rfl (v_assign rfl rfl) ?_
    refine wpList_nil ?_
    refine wp_block ?_
    refine w_loop (fun k f w1 => ∃ i : Nat, k + i = ps.length ∧ f 0 = .slice a1 ps.length c1 ∧ f 1 = .slice a2 ps.length c2 ∧ f 5 = .int .i64 i ∧ Ctx w0 w1 []) (ps.length) ?_ ?_
    · skip
      exact ⟨0, by omega, rfl, rfl, rfl, cx⟩
    intro gk4 f w hJ
    obtain ⟨i, hki, hs0, hs1, hs5, cx⟩ := hJ
    refine wp_seq ?_
    refine wp_seq ?_
    refine wp_region_lit ?_
    refine s_val rfl rfl (v_move rfl hs5) ?_
    refine s_val rfl rfl (v_move rfl hs0) ?_
    refine s_val rfl rfl (v_lenSlice rfl rfl Try.underlying46) ?_
    refine s_val rfl rfl (v_cmp rfl rfl rfl rfl) ?_
    refine wpList_nil ?_
    refine c_split rfl (fun hc14 => ?_) (fun hc14 => ?_)
    · skip
      try simp only [Bool.and_eq_true, Bool.or_eq_true, Bool.and_eq_false_iff, Bool.or_eq_false_iff, Bool.not_eq_true', Bool.not_eq_false', decide_eq_true_eq, decide_eq_false_iff_not, beq_iff_eq, beq_eq_false_iff_ne, bne_iff_ne, bne_eq_false_iff_eq, ne_eq, Classical.not_not] at hc14
      have hx : ps[i]? = some ps[i] := List.getElem?_eq_getElem (by omega)
      obtain ⟨rfl, hr1⟩ := ha1 (by omega)
      obtain ⟨rfl, hr2⟩ := ha2 (by omega)
      obtain ⟨x1, hx1, hp1⟩ := PthsC.at _ _ i _ h1 hx
      obtain ⟨x2, hx2, hp2⟩ := PthsC.at _ _ i _ h2 hx
      refine wp_skip ?_
      refine wp_seq ?_
      refine wp_block ?_
      refine wp_seq ?_
      refine w_quiet cx mixed (by kernel_rfl) ?_
      skip
      refine q_val rfl rfl (fun w cx hwQ => v_move rfl hs0) ?_
      refine q_val rfl rfl (fun w cx hwQ => v_move rfl hs5) ?_
      refine q_val rfl rfl (fun w cx hwQ => v_ia Try.underlying46 sz24 rfl rfl rfl (by omega) (by omega)) ?_
      refine q_val rfl rfl (fun w cx hwQ => v_load1 rfl rfl Try.underlying24 rfl ((hr1.up cx.ext) _ _ (by simpa using hx1))) ?_
      refine q_val rfl rfl (fun w cx hwQ => v_move rfl hs1) ?_
      refine q_val rfl rfl (fun w cx hwQ => v_move rfl hs5) ?_
      refine q_val rfl rfl (fun w cx hwQ => v_ia Try.underlying46 sz24 rfl rfl rfl (by omega) (by omega)) ?_
      refine q_val rfl rfl (fun w cx hwQ => v_load1 rfl rfl Try.underlying24 rfl ((hr2.up cx.ext) _ _ (by simpa using hx2))) ?_
      refine q_call rfl rfl (runs_fn Try.func57 rfl rfl rfl rfl) (fun w cx hwQ => (c57 A ps[i] _ _ _ (fun b hb => Nat.lt_of_lt_of_le (hA b hb) cx.ext.size) (hp1.mono (fun _ h => h) (fun b hb => cx.ext.block b (hA b hb))) (hp2.mono (fun _ h => h) (fun b hb => cx.ext.block b (hA b hb))) (hpl _ (List.getElem_mem _))).det (b0 := true) fun b hb => hb) ?_
      refine q_val rfl rfl (fun w cx hwQ => v_not rfl rfl) ?_
      refine q_nil ?_; rintro w ⟨cx, hwQ6⟩
      refine c_split rfl (fun hc26 => ?_) (fun hc26 => ?_)
      · skip
        exfalso
        simp at hc26
      · skip
        skip
        refine wp_skip ?_
        refine wp_region_lit ?_
        refine s_val rfl rfl (v_move rfl hs5) ?_
        refine s_val rfl rfl (v_add rfl rfl rfl (by omega) (by omega)) ?_
        refine s_val rfl rfl (v_assign rfl rfl) ?_
        refine wpList_nil ?_
        exact ⟨gk4 - 1, _, by omega, rfl, i + 1, by omega, hs0, hs1, rfl, cx⟩
    · skip
      try simp only [Bool.and_eq_true, Bool.or_eq_true, Bool.and_eq_false_iff, Bool.or_eq_false_iff, Bool.not_eq_true', Bool.not_eq_false', decide_eq_true_eq, decide_eq_false_iff_not, beq_iff_eq, beq_eq_false_iff_ne, bne_iff_ne, bne_eq_false_iff_eq, ne_eq, Classical.not_not] at hc14
      refine wp_exit ?_
      refine wp_seq ?_
      refine wp_region_lit ?_
      refine s_val rfl rfl (v_assign rfl rfl) ?_
      refine wpList_nil ?_
      refine wp_ret ?_
      refine ret_tmp Try.results29 rfl ?_
      exact ⟨cx.ext, _, rfl, rfl⟩
end Go.Proofs.Ytmkihcdcgkdilaa
