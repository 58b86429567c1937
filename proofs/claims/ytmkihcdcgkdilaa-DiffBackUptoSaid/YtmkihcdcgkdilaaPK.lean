/-
  What the law DiffBack rests on: several texts in one.
-/
import Derived.Test.YtmkihcdcgkdilaaPJ
section
namespace Go.Proofs.Ytmkihcdcgkdilaa
open Go Go.Dk Go.RowKit
set_option linter.unusedSimpArgs false
set_option linter.unusedVariables false
attribute [local irreducible] Go.wpList Go.Code.wp Go.bodyPost Go.wpStill Go.wpQuiet
set_option maxRecDepth 10000 in
theorem c80g (k : Nat) (v : V) (r : List Value) (key : ByteArray) (w0 : World) (hd : deep k v) (hk : k ≤ 65536) (hv : Val w0 v r) (hf : Fine v) (h7 : v.sc.kind = 7 ∨ v.fields = []) : Fc Try.prog 80 [.agg r.toArray, .string key] w0 (fun x w' => ∃ (l : List Value) (bb : Bool), x = .tuple #[.agg l.toArray, .bool bb] ∧ l.length = 13 ∧ l.all (·.oneCell') = true ∧ match hasF key v.fields with | some u => bb = true ∧ Made w0 w' u (.agg l.toArray) | none => bb = false) := by
  obtain ⟨bs, ls, fs, rfl, hbs, hls, hfs⟩ := hv.open
  obtain ⟨fa, fc, fb, fo, rfl, hfa, hfget⟩ := hfs.open
  obtain ⟨kk, rfl⟩ : ∃ kk, k = kk + 1 := by cases k with
    | zero => exact hd.elim
    | succ k => exact ⟨k, rfl⟩
  have hself := hf.self
  refine ret_enter Try.func80 rfl Try.ntmps80 rfl ?_
  have cx := Ctx.start w0
  refine wp_seq ?_
  refine wp_region_lit ?_
  refine s_box cx rfl rfl rfl rfl rfl ?_; intro b2 w cx hb2 hw2
  refine s_alloc cx z33 rfl rfl rfl ?_; intro b4 w cx hb4 hw4
  refine s_val rfl rfl (v_assign rfl rfl) ?_
  refine wpList_nil ?_
  refine wp_seq ?_
  refine wp_seq ?_
  refine wp_region_lit ?_
  refine s_val rfl rfl (v_fa fa33_7 rfl rfl) ?_
  refine s_val rfl rfl (v_load1 rfl rfl Try.underlying31 rfl (cx.cell 1 rfl rfl)) ?_
  refine s_val rfl rfl (v_lenSlice rfl rfl Try.underlying31) ?_
  refine s_val rfl rfl (v_move rfl rfl) ?_
  refine wpList_nil ?_
  refine wp_block ?_
  refine w_loop (fun k f w1 => ∃ i : Nat, k + i = v.fields.length ∧ f 1 = .string key ∧ f 2 = .pointer (some ⟨b2, 0, none⟩) ∧ f 4 = .pointer (some ⟨b4, 0, none⟩) ∧ f 9 = .slice fa v.fields.length fc ∧ f 10 = .int .i64 v.fields.length ∧ f 11 = .int .i64 i ∧ Cxr w0 w1 [(b4, .cells ([.int .i64 0, .bool false, .bool false, .string ByteArray.empty, .int .i64 0, .int .i64 0, .int .i64 0, .int .i64 0, .int .i64 0, .string ByteArray.empty, .slice none 0 0, .slice none 0 0, .slice none 0 0] : List Value).toArray 33), (b2, .cells (vrow v.sc bs ls (.slice fa v.fields.length fc)).toArray 33)] [] ∧ ∀ j, j < i → ∀ kv, v.fields[j]? = some kv → kv.1 ≠ key) (v.fields.length) ?_ ?_
  · skip
    exact ⟨0, by omega, rfl, rfl, rfl, rfl, rfl, rfl, cx, fun j hj => by omega⟩
  intro gk2 f w hJ
  obtain ⟨i, hki, hs1, hs2, hs4, hs9, hs10, hs11, cx, hno⟩ := hJ
  refine wp_seq ?_
  refine wp_region_lit ?_
  refine s_val rfl rfl (v_cmp rfl hs11 hs10 rfl) ?_
  refine wpList_nil ?_
  refine wp_seq ?_
  refine c_split rfl (fun hc12 => ?_) (fun hc12 => ?_)
  · skip
    try simp only [bsl] at hc12
    obtain rfl := hfa (by omega)
    obtain ⟨r, hr, hrv⟩ := hfget i v.fields[i] (List.getElem?_eq_getElem (by omega))
    obtain ⟨ebs, els, efs, rfl, _⟩ := hrv.open
    refine wp_skip ?_
    refine wp_seq ?_
    refine wp_block ?_
    refine wp_seq ?_
    refine wp_region_lit ?_
    refine s_val rfl rfl (v_ia Try.underlying31 sz77 rfl hs9 hs11 (by omega) (by omega)) ?_
    refine s_val rfl rfl (v_load rfl rfl Try.underlying77 rfl sz77 (hr.up cx.ext) rfl) ?_
    refine s_alloc cx z77 rfl rfl rfl ?_; intro b7 w cx hb7 hw7
    refine s_storeAllG cx 0 rfl rfl rfl rfl rfl rfl sz77 rfl (by exact hrv.oneCell) ?_; intro w cx hg7
    refine wpList_nil ?_
    refine wp_seq ?_
    refine wp_region_lit ?_
    refine s_val rfl rfl (v_fa fa33_0 rfl hs2) ?_
    refine s_val rfl rfl (v_load1 rfl rfl Try.underlying3 rfl (cx.cell 2 rfl rfl)) ?_
    refine s_val rfl rfl (v_cmp rfl rfl rfl rfl) ?_
    refine s_val rfl rfl (v_move rfl rfl) ?_
    refine s_gval rfl rfl rfl wT (fun hc => v_fa fa77_0 rfl (by first | exact gve hc rfl | exact gve (and_l hc) rfl | exact gve (and_l (and_l hc)) rfl | rfl)) ?_
    refine s_gval rfl rfl rfl wT (fun hc => v_load1 rfl (by first | exact gve hc rfl | exact gve (and_l hc) rfl | exact gve (and_l (and_l hc)) rfl | rfl) Try.underlying9 rfl (cx.cell 0 rfl rfl)) ?_
    refine s_gval rfl rfl rfl wT (fun hc => v_move rfl hs1) ?_
    refine s_gval rfl rfl rfl wT (fun hc => v_strEq rfl (by first | exact gve hc rfl | exact gve (and_l hc) rfl | exact gve (and_l (and_l hc)) rfl | rfl) (by first | exact gve hc rfl | exact gve (and_l hc) rfl | exact gve (and_l (and_l hc)) rfl | rfl)) ?_
    refine s_val rfl rfl (v_and rfl rfl rfl rfl) ?_
    refine wpList_nil ?_
    refine c_split rfl (fun hc23 => ?_) (fun hc23 => ?_)
    · skip
      try simp only [bsl] at hc23
      replace hc23 := hc23.2
      refine wp_seq ?_
      refine wp_region_lit ?_
      refine s_val rfl rfl (v_fa fa77_1 rfl rfl) ?_
      refine s_val rfl rfl (v_load rfl rfl Try.underlying33 rfl sz33 ((cx.row 0 rfl).rv 1 rfl) rfl) ?_
      have cxc := cx
      refine s_fn cx (c88 kk _ _ _ _ (hd.2 _ (List.getElem_mem _)) (by omega) (by omega) (hrv.up cx.ext) (hf.field (List.getElem_mem _)).2) Try.func88 rfl rfl rfl rfl rfl rfl ?_; intro q26 w cx hw26 hp26
      have hKn := Kp.fr hw26
      obtain ⟨r26, rfl, hm⟩ := hp26.rep
      refine s_storeAllG cx 1 rfl rfl rfl hs4 rfl rfl (by rw [hm.len]; exact sz33) (by rw [hm.len]; rfl) hm.one ?_; intro w cx hg4
      replace hKn := hKn.grown hg4 (fun b hb e => by have h1 := (cxc.lts b4 (by simp)).2; have h2 := hb.1; simp at e; omega)
      refine s_val rfl rfl (v_assign rfl rfl) ?_
      refine wpList_nil ?_
      refine wp_ret ?_
      refine ret_cell2 Try.results80 hs4 rfl (cx.at 1 rfl) Try.underlying33 rfl (by rw [hm.len]; exact sz33) ⟨cx.ext, ?_⟩
      rw [hasF_take hno (by omega) hc23]
      exact ⟨_, _, rfl, hm.len, hm.one, rfl, hp26.up cxc.ext.size hKn⟩
    try simp only [bsl] at hc23
    have hne : v.fields[i].1 ≠ key := by
      rcases hc23 with h | h
      · exact absurd (h7.resolve_right fun e => absurd (show 0 < v.fields.length by omega) (by rw [e]; exact Nat.lt_irrefl 0)) h
      · exact h
    refine wp_skip ?_
    refine wp_region_lit ?_
    refine s_val rfl rfl (v_add rfl hs11 rfl (by omega) (by omega)) ?_
    refine s_val rfl rfl (v_move rfl rfl) ?_
    refine wpList_nil ?_
    refine ⟨gk2 - 1, _, by omega, rfl, i + 1, by omega, hs1, hs2, hs4, hs9, hs10, rfl, by simpa using cx.drop 1, fun j hj kv hkv => ?_⟩
    rcases Nat.lt_or_ge j i with h | h
    · exact hno j h kv hkv
    · obtain rfl : j = i := by omega
      rw [List.getElem?_eq_getElem (by omega)] at hkv
      obtain rfl := Option.some.inj hkv
      exact hne
  try simp only [bsl] at hc12
  refine wp_exit ?_
  refine wp_seq ?_
  refine wp_region_lit ?_
  refine s_val rfl rfl (v_build bd33 rfl rfl) ?_
  refine s_storeAllG cx 0 rfl rfl rfl hs4 rfl rfl sz33 rfl rfl ?_; intro w cx hg4
  refine s_val rfl rfl (v_assign rfl rfl) ?_
  refine wpList_nil ?_
  refine wp_ret ?_
  refine ret_cell2 Try.results80 hs4 rfl (cx.at 0 rfl) Try.underlying33 rfl sz33 ⟨cx.ext, ?_⟩
  rw [hasF_none (fun j kv hj => hno j (by have := (List.getElem?_eq_some_iff.1 hj).1; omega) kv hj)]
  exact ⟨_, _, rfl, rfl, rfl, rfl⟩
theorem bd112k (k : ByteArray) (w : World) : (Instr.build 112 ([(1, .string k)] : List (Nat × Value)).toArray).run Try.prog w = .ok (.agg (srow (keyS k)).toArray) w := by
  unfold srow keyS
  go_simp
theorem bd112i (i : Int) (w : World) : (Instr.build 112 ([(0, .bool true), (2, .int .i64 i)] : List (Nat × Value)).toArray).run Try.prog w = .ok (.agg #[.bool true, .string ByteArray.empty, .int .i64 i]) w := by
  go_simp
  rfl
theorem path_one {w : World} {g : Nat} {s : Stp} (h : RowAt w g 0 (srow s)) : PthA (fun b => b = g) w (.slice (some ⟨g, 0, none⟩) 1 1) [s] :=
  ⟨g, 0, .inr ⟨_, 1, rfl, by simp, fun _ => ⟨rfl, rfl⟩⟩, fun i x hx => by
    cases i with
    | zero => obtain rfl : s = x := by simpa using hx
              simpa using h
    | succ i => simp at hx⟩
set_option maxRecDepth 10000 in
theorem c84 (A : Nat → Prop) (l1 l2 : List Stp) (s1 s2 : Value) (w0 : World) (hA : ∀ b, A b → b < w0.heap.size) (h1 : PthA A w0 s1 l1) (h2 : PthA A w0 s2 l2) (hl : l1.length + l2.length ≤ 1000) : Fc Try.prog 84 [s1, s2] w0 (fun x w' => PthA (Fr w0 w') w' x (l1 ++ l2)) := by
  refine ret_enter Try.func84 rfl Try.ntmps84 rfl ?_
  have cx := Ctx.start w0
  refine wp_seq ?_
  refine wp_region_lit ?_
  refine s_val rfl rfl (v_assign rfl rfl) ?_
  refine wpList_nil ?_
  refine wp_seq ?_
  refine wp_region_lit ?_
  refine s_val rfl rfl (v_move rfl rfl) ?_
  replace cx := cx.nilRow 112 3
  refine s_appendS cx ei112 Try.underlying24 rfl rfl rfl rfl rfl (src_path (h1.mono (fun _ h => h) (fun b hb => cx.ext.block b (hA b hb)))) (flatS_length _) (flatS_one _) (by omega) ?_; intro v7 w cx hgr7 hnw7
  refine s_val rfl rfl (v_assign rfl rfl) ?_
  refine wpList_nil ?_
  refine wp_seq ?_
  refine wp_region_lit ?_
  refine s_val rfl rfl (v_move rfl rfl) ?_
  refine s_val rfl rfl (v_move rfl rfl) ?_
  refine s_appendS cx ei112 Try.underlying24 rfl rfl rfl rfl rfl (src_path (h2.mono (fun _ h => h) (fun b hb => cx.ext.block b (hA b hb)))) (flatS_length _) (flatS_one _) (by omega) ?_; intro v10 w cx hgr10 hnw10
  refine s_val rfl rfl (v_assign rfl rfl) ?_
  refine wpList_nil ?_
  refine wp_ret ?_
  refine ret_tmp Try.results84 rfl ?_
  refine ⟨cx.ext, ?_⟩
  have hrow := cx.head
  have e : [] ++ l1.flatMap srow ++ l2.flatMap srow = (l1 ++ l2).flatMap srow := by rw [List.nil_append, List.flatMap_append]
  simp only at hrow
  rw [e] at hrow
  exact (path_of_row hrow (by rw [List.length_append]; omega)).mono (fun b hb => Made_lt cx.head b hb) (fun _ _ => rfl)
set_option maxRecDepth 10000 in
theorem c119 (A : Nat → Prop) (l1 l2 : List Stp) (s1 s2 : Value) (w0 : World) (hA : ∀ b, A b → b < w0.heap.size) (h1 : PthA A w0 s1 l1) (h2 : PthA A w0 s2 l2) (hl : l1.length + l2.length ≤ 1000) : Fc Try.prog 119 [s1, s2] w0 (fun x w' => PthA (Fr w0 w') w' x (l1 ++ l2)) := by
  refine ret_enter Try.func119 rfl Try.ntmps119 rfl ?_
  have cx := Ctx.start w0
  refine wp_seq ?_
  refine wp_region_lit ?_
  refine s_val rfl rfl (v_assign rfl rfl) ?_
  refine wpList_nil ?_
  refine wp_seq ?_
  refine wp_region_lit ?_
  refine s_bsl0 cx Try.underlying24 sz112 rfl rfl rfl ?_; intro b5 w cx hb5 hw5
  replace cx := cx.toRow (k := 0) (size := 3) (cs := []) rfl (by decide)
  refine s_val rfl rfl (v_move rfl rfl) ?_
  refine s_appendS cx ei112 Try.underlying24 rfl rfl rfl rfl rfl (src_path (h1.mono (fun _ h => h) (fun b hb => cx.ext.block b (hA b hb)))) (flatS_length _) (flatS_one _) (by omega) ?_; intro v7 w cx hgr7 hnw7
  refine s_val rfl rfl (v_move rfl rfl) ?_
  refine s_appendS cx ei112 Try.underlying24 rfl rfl rfl rfl rfl (src_path (h2.mono (fun _ h => h) (fun b hb => cx.ext.block b (hA b hb)))) (flatS_length _) (flatS_one _) (by omega) ?_; intro v10 w cx hgr10 hnw10
  refine s_val rfl rfl (v_assign rfl rfl) ?_
  refine wpList_nil ?_
  refine wp_ret ?_
  refine ret_tmp Try.results119 rfl ?_
  refine ⟨cx.ext, ?_⟩
  have hrow := cx.head
  have e : [] ++ l1.flatMap srow ++ l2.flatMap srow = (l1 ++ l2).flatMap srow := by rw [List.nil_append, List.flatMap_append]
  simp only at hrow
  rw [e] at hrow
  exact (path_of_row hrow (by rw [List.length_append]; omega)).mono (fun b hb => Made_lt cx.head b hb) (fun _ _ => rfl)
set_option maxRecDepth 10000 in
theorem c82 (k : ByteArray) (w0 : World) : Fc Try.prog 82 [.string k] w0 (fun x _ => x = .agg (srow (keyS k)).toArray) := by
  refine ret_enter Try.func82 rfl Try.ntmps82 rfl ?_
  have cx := Ctx.start w0
  refine wp_seq ?_
  refine wp_region_lit ?_
  refine s_alloc cx z112 rfl rfl rfl ?_; intro b2 w cx hb2 hw2
  refine wpList_nil ?_
  refine wp_seq ?_
  refine wp_region_lit ?_
  refine s_val rfl rfl (v_move rfl rfl) ?_
  refine s_val rfl rfl (v_build (bd112k _) rfl rfl) ?_
  refine s_storeAllG cx 0 rfl rfl rfl rfl rfl rfl sz112 rfl rfl ?_; intro w cx hg2
  refine wpList_nil ?_
  refine wp_ret ?_
  exact ret_cell Try.results82 rfl (cx.at 0 rfl) Try.underlying112 rfl sz112 ⟨cx.ext, rfl⟩
set_option maxRecDepth 10000 in
theorem c83 (i : Nat) (w0 : World) : Fc Try.prog 83 [.int .i64 i] w0 (fun x _ => x = .agg (srow (idxS i)).toArray) := by
  refine ret_enter Try.func83 rfl Try.ntmps83 rfl ?_
  have cx := Ctx.start w0
  refine wp_seq ?_
  refine wp_region_lit ?_
  refine s_alloc cx z112 rfl rfl rfl ?_; intro b2 w cx hb2 hw2
  refine wpList_nil ?_
  refine wp_seq ?_
  refine wp_region_lit ?_
  refine s_val rfl rfl (v_move rfl rfl) ?_
  refine s_val rfl rfl (v_build (bd112i _) rfl rfl) ?_
  refine s_storeAllG cx 0 rfl rfl rfl rfl rfl rfl sz112 rfl rfl ?_; intro w cx hg2
  refine wpList_nil ?_
  refine wp_ret ?_
  exact ret_cell Try.results83 rfl (cx.at 0 rfl) Try.underlying112 rfl sz112 ⟨cx.ext, rfl⟩
set_option maxRecDepth 10000 in
theorem c81 (st : Stp) (A : Nat → Prop) (l1 : List Stp) (s1 : Value) (w0 : World) (hA : ∀ b, A b → b < w0.heap.size) (h1 : PthA A w0 s1 l1) (hl : l1.length + 1 ≤ 1000) : Fc Try.prog 81 [s1, .agg (srow st).toArray] w0 (fun x w' => PthA (Fr w0 w') w' x (l1 ++ [st])) := by
  refine ret_enter Try.func81 rfl Try.ntmps81 rfl ?_
  have cx := Ctx.start w0
  refine wp_seq ?_
  refine wp_region_lit ?_
  refine s_box cx rfl rfl rfl rfl rfl ?_; intro b3 w cx hb3 hw3
  refine s_val rfl rfl (v_assign rfl rfl) ?_
  refine wpList_nil ?_
  refine wp_seq ?_
  refine wp_region_lit ?_
  refine s_val rfl rfl (v_move rfl rfl) ?_
  refine s_val rfl rfl (v_load rfl rfl Try.underlying112 rfl sz112 (cx.row 0 rfl) rfl) ?_
  refine s_bsl1 cx Try.underlying24 sz112 z112 rfl rfl rfl rfl rfl rfl rfl rfl ?_; intro b7 w cx hb7 hw7
  have cxc := cx
  refine s_fn cx (c84 (fun b => A b ∨ b = b7) l1 [st] _ _ _ (fun b hb => hb.elim (fun h => Nat.lt_of_lt_of_le (hA b h) cx.ext.size) (fun h => by rw [h]; exact (cx.lts b7 (by simp)).2)) (h1.mono (fun _ h => .inl h) (fun b hb => cx.ext.block b (hA b hb))) ((path_one (cx.row 0 rfl)).mono (fun _ h => .inr h) (fun _ _ => rfl)) (by simpa using hl)) Try.func84 rfl rfl rfl rfl rfl rfl ?_; intro q8 w cx hw8 hp8
  refine s_val rfl rfl (v_assign rfl rfl) ?_
  refine wpList_nil ?_
  refine wp_ret ?_
  refine ret_tmp Try.results81 rfl ?_
  exact ⟨cx.ext, hp8.mono (fun b hb => ⟨Nat.le_trans cxc.ext.size hb.1, hb.2⟩) (fun _ _ => rfl)⟩
set_option maxRecDepth 10000 in
theorem c85 (i : Nat) (A : Nat → Prop) (l1 : List Stp) (s1 : Value) (w0 : World) (hA : ∀ b, A b → b < w0.heap.size) (h1 : PthA A w0 s1 l1) (hl : l1.length + 1 ≤ 1000) : Fc Try.prog 85 [s1, .int .i64 i] w0 (fun x w' => PthA (Fr w0 w') w' x (l1 ++ [idxS i])) := by
  refine ret_enter Try.func85 rfl Try.ntmps85 rfl ?_
  have cx := Ctx.start w0
  refine wp_seq ?_
  refine wp_region_lit ?_
  refine s_val rfl rfl (v_assign rfl rfl) ?_
  refine wpList_nil ?_
  refine wp_seq ?_
  refine wp_region_lit ?_
  refine s_val rfl rfl (v_move rfl rfl) ?_
  refine s_val rfl rfl (v_move rfl rfl) ?_
  refine s_val rfl rfl (v_build (bd112i _) rfl rfl) ?_
  refine s_bsl1 cx Try.underlying24 sz112 z112 rfl rfl rfl rfl rfl rfl rfl rfl ?_; intro b8 w cx hb8 hw8
  have cxc := cx
  refine s_fn cx (c119 (fun b => A b ∨ b = b8) l1 [idxS i] _ _ _ (fun b hb => hb.elim (fun h => Nat.lt_of_lt_of_le (hA b h) cx.ext.size) (fun h => by rw [h]; exact (cx.lts b8 (by simp)).2)) (h1.mono (fun _ h => .inl h) (fun b hb => cx.ext.block b (hA b hb))) ((path_one (cx.row 0 rfl)).mono (fun _ h => .inr h) (fun _ _ => rfl)) (by simpa using hl)) Try.func119 rfl rfl rfl rfl rfl rfl ?_; intro q9 w cx hw9 hp9
  refine s_val rfl rfl (v_assign rfl rfl) ?_
  refine wpList_nil ?_
  refine wp_ret ?_
  refine ret_tmp Try.results85 rfl ?_
  exact ⟨cx.ext, hp9.mono (fun b hb => ⟨Nat.le_trans cxc.ext.size hb.1, hb.2⟩) (fun _ _ => rfl)⟩
set_option maxRecDepth 10000 in
theorem c87 (k : ByteArray) (A : Nat → Prop) (l1 : List Stp) (s1 : Value) (w0 : World) (hA : ∀ b, A b → b < w0.heap.size) (h1 : PthA A w0 s1 l1) (hl : l1.length + 1 ≤ 1000) : Fc Try.prog 87 [s1, .string k] w0 (fun x w' => PthA (Fr w0 w') w' x (l1 ++ [keyS k])) := by
  refine ret_enter Try.func87 rfl Try.ntmps87 rfl ?_
  have cx := Ctx.start w0
  refine wp_seq ?_
  refine wp_region_lit ?_
  refine s_val rfl rfl (v_assign rfl rfl) ?_
  refine wpList_nil ?_
  refine wp_seq ?_
  refine wp_region_lit ?_
  refine s_val rfl rfl (v_move rfl rfl) ?_
  refine s_val rfl rfl (v_move rfl rfl) ?_
  refine s_val rfl rfl (v_build (bd112k _) rfl rfl) ?_
  refine s_bsl1 cx Try.underlying24 sz112 z112 rfl rfl rfl rfl rfl rfl rfl rfl ?_; intro b8 w cx hb8 hw8
  have cxc := cx
  refine s_fn cx (c119 (fun b => A b ∨ b = b8) l1 [keyS k] _ _ _ (fun b hb => hb.elim (fun h => Nat.lt_of_lt_of_le (hA b h) cx.ext.size) (fun h => by rw [h]; exact (cx.lts b8 (by simp)).2)) (h1.mono (fun _ h => .inl h) (fun b hb => cx.ext.block b (hA b hb))) ((path_one (cx.row 0 rfl)).mono (fun _ h => .inr h) (fun _ _ => rfl)) (by simpa using hl)) Try.func119 rfl rfl rfl rfl rfl rfl ?_; intro q9 w cx hw9 hp9
  refine s_val rfl rfl (v_assign rfl rfl) ?_
  refine wpList_nil ?_
  refine wp_ret ?_
  refine ret_tmp Try.results87 rfl ?_
  exact ⟨cx.ext, hp9.mono (fun b hb => ⟨Nat.le_trans cxc.ext.size hb.1, hb.2⟩) (fun _ _ => rfl)⟩
set_option maxRecDepth 10000 in
theorem c86 (A : Nat → Prop) (v : V) (r : List Value) (key : ByteArray) (w0 : World) (hA : ∀ b, A b → b < w0.heap.size) (hv : RepV A w0 v r) (hl : v.fields.length ≤ 1048576) : Fc Try.prog 86 [.agg r.toArray, .string key] w0 (fun x w' => ∃ l : List Value, x = .tuple #[.agg l.toArray, .bool (hasF key v.fields).isSome] ∧ RepV A w' ((hasF key v.fields).getD nulV) l) := by
  obtain ⟨bs, ls, fs, rfl, hbs, hls, hfs⟩ := RepV.open hv
  obtain ⟨fb, fo, hfl, hfreps⟩ := id hfs
  obtain ⟨fa, fc, rfl, hfa⟩ := hfl.form
  have hfget := fun i kv h => RepFs.get v.fields fo i kv hfreps h
  refine ret_enter Try.func86 rfl Try.ntmps86 rfl ?_
  have cx := Ctx.start w0
  refine wp_seq ?_
  refine wp_region_lit ?_
  refine s_box cx rfl rfl rfl rfl rfl ?_; intro b2 w cx hb2 hw2
  refine s_alloc cx z33 rfl rfl rfl ?_; intro b4 w cx hb4 hw4
  refine s_val rfl rfl (v_assign rfl rfl) ?_
  refine wpList_nil ?_
  refine wp_seq ?_
  refine wp_seq ?_
  refine wp_region_lit ?_
  refine s_val rfl rfl (v_assign rfl rfl) ?_
  refine wpList_nil ?_
  refine wp_block ?_
  refine w_loop (fun k f w1 => ∃ i : Nat, k + i = v.fields.length ∧ f 1 = .string key ∧ f 2 = .pointer (some ⟨b2, 0, none⟩) ∧ f 4 = .pointer (some ⟨b4, 0, none⟩) ∧ f 6 = .int .i64 i ∧ Cxr w0 w1 [(b4, .cells ([.int .i64 0, .bool false, .bool false, .string ByteArray.empty, .int .i64 0, .int .i64 0, .int .i64 0, .int .i64 0, .int .i64 0, .string ByteArray.empty, .slice none 0 0, .slice none 0 0, .slice none 0 0] : List Value).toArray 33), (b2, .cells (vrow v.sc bs ls (.slice fa v.fields.length fc)).toArray 33)] [] ∧ ∀ j, j < i → ∀ kv, v.fields[j]? = some kv → kv.1 ≠ key) (v.fields.length) ?_ ?_
  · skip
    exact ⟨0, by omega, rfl, rfl, rfl, rfl, cx, fun j hj => by omega⟩
  intro gk2 f w hJ
  obtain ⟨i, hki, hs1, hs2, hs4, hs6, cx, hno⟩ := hJ
  refine wp_seq ?_
  refine wp_seq ?_
  refine wp_region_lit ?_
  refine s_val rfl rfl (v_move rfl hs6) ?_
  refine s_val rfl rfl (v_fa fa33_7 rfl hs2) ?_
  refine s_val rfl rfl (v_load1 rfl rfl Try.underlying31 rfl (cx.cell 1 rfl rfl)) ?_
  refine s_val rfl rfl (v_lenSlice rfl rfl Try.underlying31) ?_
  refine s_val rfl rfl (v_cmp rfl rfl rfl rfl) ?_
  refine wpList_nil ?_
  refine c_split rfl (fun hc11 => ?_) (fun hc11 => ?_)
  · skip
    try simp only [bsl] at hc11
    obtain rfl := hfa (by omega)
    obtain ⟨r, hr, hrv⟩ := hfget i v.fields[i] (List.getElem?_eq_getElem (by omega))
    have hrA := hfl.inA (by omega)
    refine wp_skip ?_
    refine wp_seq ?_
    refine wp_block ?_
    refine wp_seq ?_
    refine wp_region_lit ?_
    refine s_val rfl rfl (v_fa fa33_7 rfl hs2) ?_
    refine s_val rfl rfl (v_load1 rfl rfl Try.underlying31 rfl (cx.cell 1 rfl rfl)) ?_
    refine s_val rfl rfl (v_move rfl hs6) ?_
    refine s_val rfl rfl (v_ia Try.underlying31 sz77 rfl rfl rfl (by omega) (by omega)) ?_
    refine s_val rfl rfl (v_fa fa77_0 rfl rfl) ?_
    refine s_val rfl rfl (v_load1 rfl rfl Try.underlying9 rfl ((hr.keep (cx.ext.block _ (hA _ hrA))).cell 0 rfl)) ?_
    refine s_val rfl rfl (v_move rfl hs1) ?_
    refine s_val rfl rfl (v_strEq rfl rfl rfl) ?_
    refine wpList_nil ?_
    refine c_split rfl (fun hc21 => ?_) (fun hc21 => ?_)
    · skip
      try simp only [bsl] at hc21
      refine wp_seq ?_
      refine wp_region_lit ?_
      refine s_val rfl rfl (v_fa fa33_7 rfl hs2) ?_
      refine s_val rfl rfl (v_load1 rfl rfl Try.underlying31 rfl (cx.cell 1 rfl rfl)) ?_
      refine s_val rfl rfl (v_move rfl hs6) ?_
      refine s_val rfl rfl (v_ia Try.underlying31 sz77 rfl rfl rfl (by omega) (by omega)) ?_
      refine s_val rfl rfl (v_fa fa77_1 rfl rfl) ?_
      refine s_val rfl rfl (v_load rfl rfl Try.underlying33 rfl sz33 ((hr.keep (cx.ext.block _ (hA _ hrA))).tail) hrv.len) ?_
      refine s_storeAllG cx 0 rfl rfl rfl hs4 rfl rfl (by rw [hrv.len]; exact sz33) (by rw [hrv.len]; rfl) hrv.one ?_; intro w cx hg4
      refine s_val rfl rfl (v_assign rfl rfl) ?_
      refine wpList_nil ?_
      refine wp_ret ?_
      refine ret_cell2 Try.results86 hs4 rfl (cx.at 0 rfl) Try.underlying33 rfl (by rw [hrv.len]; exact sz33) ⟨cx.ext, r, ?_⟩
      rw [hasF_take hno (by omega) hc21]
      exact ⟨rfl, RepV.mono (fun _ h => h) (fun b hb => cx.ext.block b (hA b hb)) _ _ hrv⟩
    try simp only [bsl] at hc21
    refine wp_skip ?_
    refine wp_region_lit ?_
    refine s_val rfl rfl (v_move rfl hs6) ?_
    refine s_val rfl rfl (v_add rfl rfl rfl (by omega) (by omega)) ?_
    refine s_val rfl rfl (v_assign rfl rfl) ?_
    refine wpList_nil ?_
    refine ⟨gk2 - 1, _, by omega, rfl, i + 1, by omega, hs1, hs2, hs4, rfl, cx, fun j hj kv hkv => ?_⟩
    rcases Nat.lt_or_ge j i with h | h
    · exact hno j h kv hkv
    · obtain rfl : j = i := by omega
      rw [List.getElem?_eq_getElem (by omega)] at hkv
      obtain rfl := Option.some.inj hkv
      exact hc21
  try simp only [bsl] at hc11
  refine wp_exit ?_
  refine wp_seq ?_
  refine wp_region_lit ?_
  refine s_val rfl rfl (v_build bd33 rfl rfl) ?_
  refine s_storeAllG cx 0 rfl rfl rfl hs4 rfl rfl sz33 rfl rfl ?_; intro w cx hg4
  refine s_val rfl rfl (v_assign rfl rfl) ?_
  refine wpList_nil ?_
  refine wp_ret ?_
  refine ret_cell2 (l := vrow (zk 0) (.slice none 0 0) (.slice none 0 0) (.slice none 0 0)) Try.results86 hs4 rfl (cx.at 0 rfl) Try.underlying33 rfl sz33 ⟨cx.ext, vrow (zk 0) (.slice none 0 0) (.slice none 0 0) (.slice none 0 0), ?_⟩
  rw [hasF_none (fun j kv hj => hno j (by have := (List.getElem?_eq_some_iff.1 hj).1; omega) kv hj)]
  exact ⟨rfl, rep_nul⟩
end Go.Proofs.Ytmkihcdcgkdilaa
end
section
namespace Go.Proofs.Ytmkihcdcgkdilaa
open Go Go.Dk Go.RowKit
set_option linter.unusedSimpArgs false
set_option linter.unusedVariables false
attribute [local irreducible] Go.wpList Go.Code.wp Go.bodyPost Go.wpStill Go.wpQuiet
end Go.Proofs.Ytmkihcdcgkdilaa
end
section
namespace Go.Proofs.Ytmkihcdcgkdilaa
open Go Go.Dk Go.RowKit
set_option linter.unusedSimpArgs false
set_option linter.unusedVariables false
attribute [local irreducible] Go.wpList Go.Code.wp Go.bodyPost Go.wpStill Go.wpQuiet
section
variable (a : Option Addr) (n c : Nat) (k : Int) (s t : Sc) (bs ls fs bs2 ls2 fs2 : Value) (w : World)
theorem bd35r2 : (Instr.build 35 ([(0, .int .i64 3), (1, .slice a n c), (2, .int .i64 k), (3, .agg (vrow s bs ls fs).toArray)] : List (Nat × Value)).toArray).run Try.prog w = .ok (.agg (.int .i64 3 :: .slice a n c :: .int .i64 k :: (vrow s bs ls fs ++ vrow (zk 0) (.slice none 0 0) (.slice none 0 0) (.slice none 0 0))).toArray) w := by
  unfold vrow zk
  go_simp
  rfl
theorem bd35a2 : (Instr.build 35 ([(0, .int .i64 2), (1, .slice a n c), (2, .int .i64 k), (4, .agg (vrow s bs ls fs).toArray)] : List (Nat × Value)).toArray).run Try.prog w = .ok (.agg (.int .i64 2 :: .slice a n c :: .int .i64 k :: (vrow (zk 0) (.slice none 0 0) (.slice none 0 0) (.slice none 0 0) ++ vrow s bs ls fs)).toArray) w := by
  unfold vrow zk
  go_simp
  rfl
theorem bd35r : (Instr.build 35 ([(0, .int .i64 3), (1, .slice a n c), (3, .agg (vrow s bs ls fs).toArray)] : List (Nat × Value)).toArray).run Try.prog w = .ok (.agg (.int .i64 3 :: .slice a n c :: .int .i64 0 :: (vrow s bs ls fs ++ vrow (zk 0) (.slice none 0 0) (.slice none 0 0) (.slice none 0 0))).toArray) w := by
  unfold vrow zk
  go_simp
  rfl
theorem bd35a : (Instr.build 35 ([(0, .int .i64 2), (1, .slice a n c), (4, .agg (vrow s bs ls fs).toArray)] : List (Nat × Value)).toArray).run Try.prog w = .ok (.agg (.int .i64 2 :: .slice a n c :: .int .i64 0 :: (vrow (zk 0) (.slice none 0 0) (.slice none 0 0) (.slice none 0 0) ++ vrow s bs ls fs)).toArray) w := by
  unfold vrow zk
  go_simp
  rfl
theorem bd35c : (Instr.build 35 ([(0, .int .i64 1), (1, .slice a n c), (3, .agg (vrow s bs ls fs).toArray), (4, .agg (vrow t bs2 ls2 fs2).toArray)] : List (Nat × Value)).toArray).run Try.prog w = .ok (.agg (.int .i64 1 :: .slice a n c :: .int .i64 0 :: (vrow s bs ls fs ++ vrow t bs2 ls2 fs2)).toArray) w := by
  unfold vrow
  go_simp
end
def C66 (E : V → V → Bool) (d : Nat) : Prop := ∀ (wb : World) (L : List (Nat × Obj)) (R : List Row) (p : List Stp) (ps : Value) (a b : V) (ra rb : List Value) (w0 : World), Cxr wb w0 L R → PthA (F w0 L R) w0 ps p → RepV (F w0 L R) w0 a ra → RepV (F w0 L R) w0 b rb → okd d a → okd d b → Fine a → Fine b → Nar d a b → p.length + d ≤ 100 → d ≤ 48 → (btw E d p a b).length ≤ 1048576 → Ret Try.prog 66 [ps, .agg ra.toArray, .agg rb.toArray] w0 (BtR wb w0 L R (btw E d p a b))
end Go.Proofs.Ytmkihcdcgkdilaa
end
section
namespace Go.Proofs.Ytmkihcdcgkdilaa
open Go Go.Dk Go.RowKit
set_option linter.unusedSimpArgs false
set_option linter.unusedVariables false
attribute [local irreducible] Go.wpList Go.Code.wp Go.bodyPost Go.wpStill Go.wpQuiet
theorem common_few (E : V → V → Bool) (a b : List V) : (common E a b).length ≤ a.length := by
  have hPa := nPre_a E a b
  have hSa := nSuf_a E a b
  have hlA := midL_len hSa
  have hMl := sel_len E (midL a (nPre E a b) (nSuf E a b)) (midL b (nPre E a b) (nSuf E a b)) (midL a (nPre E a b) (nSuf E a b)).length 0 0
  rw [hlA] at hMl
  unfold common
  rw [List.length_append, List.length_append, List.length_map, diag_len, ends_len]
  unfold mids
  rw [hlA]
  omega
def listV (l : List V) : V := .mk (zk 6) [] l []
def C99 (E : V → V → Bool) (d : Nat) : Prop := ∀ (wb : World) (L : List (Nat × Obj)) (R : List Row) (p : List Stp) (ps : Value) (a b : List V) (s1 s2 : Value) (w0 : World), Cxr wb w0 L R → PthA (F w0 L R) w0 ps p → RepL (F w0 L R) w0 s1 a → RepL (F w0 L R) w0 s2 b → (∀ x ∈ a, okd d x ∧ Fine x) → (∀ x ∈ b, okd d x ∧ Fine x) → a.length ≤ 6000 → b.length ≤ 6000 → a.length * b.length ≤ 40000 → (∀ x ∈ a, ∀ y ∈ b, Nar d x y) → p.length + (d + 1) ≤ 100 → d + 1 ≤ 48 → (lstC (btw E d) p a b (common E a b ++ [(a.length, b.length)]) 0 0).length ≤ 1048576 →
    Ret Try.prog 99 [ps, s1, s2] w0 (BtR wb w0 L R (lstC (btw E d) p a b (common E a b ++ [(a.length, b.length)]) 0 0))
end Go.Proofs.Ytmkihcdcgkdilaa
end
section
namespace Go.Proofs.Ytmkihcdcgkdilaa
open Go Go.Dk Go.RowKit
set_option linter.unusedSimpArgs false
set_option linter.unusedVariables false
attribute [local irreducible] Go.wpList Go.Code.wp Go.bodyPost Go.wpStill Go.wpQuiet
def C65 (E : V → V → Bool) (d : Nat) : Prop := ∀ (wb : World) (L : List (Nat × Obj)) (R : List Row) (v : Value) (n : Nat) (cs : List Value) (p : List Stp) (ps : Value) (a b : V) (ra rb : List Value) (w0 : World), Cxr wb w0 L (⟨35, 29, v, n, cs⟩ :: R) → PthA (F w0 L (⟨35, 29, v, n, cs⟩ :: R)) w0 ps p → RepV (F w0 L (⟨35, 29, v, n, cs⟩ :: R)) w0 a ra → RepV (F w0 L (⟨35, 29, v, n, cs⟩ :: R)) w0 b rb → okd d a → okd d b → Fine a → Fine b → Nar d a b → p.length + d ≤ 100 → d ≤ 48 → n + (btw E d p a b).length ≤ 1048576 → Ret Try.prog 65 [v, ps, .agg ra.toArray, .agg rb.toArray] w0 (BtP wb w0 L R v n cs (btw E d p a b))
set_option maxRecDepth 10000 in
set_option maxHeartbeats 6400000 in
theorem c96 (E : V → V → Bool) (d : Nat) (ih : C65 E d) (wb : World) (L : List (Nat × Obj)) (R : List Row) (v : Value) (n : Nat) (cs : List Value) (p : List Stp) (ps : Value) (a b : V) (ra rb : List Value) (w0 : World) : Cxr wb w0 L (⟨35, 29, v, n, cs⟩ :: R) → PthA (F w0 L (⟨35, 29, v, n, cs⟩ :: R)) w0 ps p → RepV (F w0 L (⟨35, 29, v, n, cs⟩ :: R)) w0 a ra → RepV (F w0 L (⟨35, 29, v, n, cs⟩ :: R)) w0 b rb → okd (d + 1) a → okd (d + 1) b → Fine a → Fine b → Nar (d + 1) a b → p.length + (d + 1) ≤ 100 → (d + 1) ≤ 48 → n + ((kepC (btw E d) p b.fields a.fields ++ remC p b.fields a.fields 0 ++ addC p a.fields b.fields (nkep b.fields a.fields))).length ≤ 1048576 → Ret Try.prog 96 [v, ps, .agg ra.toArray, .agg rb.toArray] w0 (BtP wb w0 L R v n cs (kepC (btw E d) p b.fields a.fields ++ remC p b.fields a.fields 0 ++ addC p a.fields b.fields (nkep b.fields a.fields))) := by
  intro cx hpp hva hvb hoa hob hfa1 hfb1 hnar hpd hd48 hnb
  have hO1 := id (RepV.open hva)
  obtain ⟨abs, als, afs, rfl, _, _, haf0⟩ := hO1
  have hO2 := id (RepV.open hvb)
  obtain ⟨bbs, bls, bfs, rfl, _, _, hbf0⟩ := hO2
  obtain ⟨fb, fo, hfsl, hfreps⟩ := haf0
  have hO3 := hfsl.form
  obtain ⟨fa, fc, rfl, hfa⟩ := hO3
  obtain ⟨gb, go, hgsl, hgreps⟩ := hbf0
  have hO4 := hgsl.form
  obtain ⟨ga, gc, rfl, hga⟩ := hO4
  have hafl := hfa1.self.2.2.2.2
  have hbfl := hfb1.self.2.2.2.2
  rw [List.length_append, List.length_append] at hnb
  refine ret_enter Try.func96 rfl Try.ntmps96 rfl ?_
  refine wp_seq ?_
  refine wp_region_lit ?_
  refine s_box cx rfl rfl rfl rfl rfl ?_; intro b6 w cx hb6 hw6
  refine s_box cx rfl rfl rfl rfl rfl ?_; intro b7 w cx hb7 hw7
  refine s_val rfl rfl (v_assign rfl rfl) ?_
  refine wpList_nil ?_
  refine wp_seq ?_
  refine wp_seq ?_
  refine wp_region_lit ?_
  have hz : Fz w0 L (⟨35, 29, v, n, cs⟩ :: R) w ((b7, .cells (vrow b.sc bbs bls (.slice ga b.fields.length gc)).toArray 33) :: (b6, .cells (vrow a.sc abs als (.slice fa a.fields.length fc)).toArray 33) :: L) (⟨35, 29, v, n, cs⟩ :: R) := (Fz.new hb6 hw6).trans (Fz.new hb7 hw7)
  refine s_val rfl rfl (v_fa fa33_7 rfl rfl) ?_
  refine s_val rfl rfl (v_load1 rfl rfl Try.underlying31 rfl (cx.cell 1 rfl rfl)) ?_
  refine s_val rfl rfl (v_lenSlice rfl rfl Try.underlying31) ?_
  refine s_val rfl rfl (v_move rfl rfl) ?_
  refine wpList_nil ?_
  refine wp_block ?_
  refine w_loop (fun k f w1 => ∃ (i : Nat) (x : Value) (S : List Ch) (rs : List (List Value)), k + i = a.fields.length ∧ f 0 = x ∧ f 1 = ps ∧ f 6 = .pointer (some ⟨b6, 0, none⟩) ∧ f 7 = .pointer (some ⟨b7, 0, none⟩) ∧ f 24 = .slice fa a.fields.length fc ∧ f 25 = .int .i64 (a.fields.length : Nat) ∧ f 26 = .int .i64 (i : Nat) ∧ Sho n (kepC (btw E d) p b.fields (a.fields.take i)) S ∧ LpC wb w0 L (⟨35, 29, v, n, cs⟩ :: R) ((b7, .cells (vrow b.sc bbs bls (.slice ga b.fields.length gc)).toArray 33) :: (b6, .cells (vrow a.sc abs als (.slice fa a.fields.length fc)).toArray 33) :: L) R n cs S x rs w1) (a.fields.length) ?_ ?_
  · skip
    exact ⟨0, v, [], [], by omega, rfl, rfl, rfl, rfl, rfl, rfl, rfl, (Sho.nil n).cast (by simp [kepC]), LpC.zero cx hz⟩
  intro gk2 f w hJ
  obtain ⟨i, x, S, rs, hki, hs0, hs1, hs6, hs7, hs24, hs25, hs26, hsh, cx, hz, hcf⟩ := hJ
  refine wp_seq ?_
  refine wp_region_lit ?_
  refine s_val rfl rfl (v_cmp rfl hs26 hs25 rfl) ?_
  refine wpList_nil ?_
  refine wp_seq ?_
  refine c_split rfl (fun hc27 => ?_) (fun hc27 => ?_)
  · skip
    try simp only [bsl] at hc27
    have hil : i < a.fields.length := by omega
    have hO5 := hfa (by omega)
    obtain rfl := hO5
    have hFfb := hfsl.inA (by omega)
    have hO6 := fld_at hz hfreps hil hFfb
    obtain ⟨r, hr, hrv⟩ := hO6
    have hO7 := hrv.open
    obtain ⟨ebs, els, efs, rfl, _⟩ := hO7
    have hkm : a.fields[i] ∈ a.fields := List.getElem_mem _
    have hh := hz.self
    have hb1 := kepC_le (btw E d) p b.fields a.fields (i + 1)
    rw [kepC_take (btw E d) p b.fields hil] at hb1
    have hSl := hsh.1
    refine wp_skip ?_
    refine wp_seq ?_
    refine wp_block ?_
    refine wp_seq ?_
    refine wp_region_lit ?_
    refine s_val rfl rfl (v_ia Try.underlying31 sz77 rfl hs24 hs26 (by omega) (by omega)) ?_
    refine s_val rfl rfl (v_load rfl rfl Try.underlying77 rfl sz77 hr rfl) ?_
    refine s_alloc cx z77 rfl rfl rfl ?_; intro b10 w cx hb10 hw10
    refine s_storeAllG cx 0 rfl rfl rfl rfl rfl rfl sz77 rfl (rowF_one hrv) ?_; intro w cx hg10
    replace cx := cx.set0
    replace hh := hh.trans (Fz.newSet cx hb10 hw10 hg10)
    replace hrv := (Fz.newSet cx hb10 hw10 hg10).rep hrv
    refine wpList_nil ?_
    refine wp_seq ?_
    refine wp_region_lit ?_
    refine s_val rfl rfl (v_load rfl hs7 Try.underlying33 rfl sz33 (cx.row 1 rfl) rfl) ?_
    refine s_val rfl rfl (v_fa fa77_0 rfl rfl) ?_
    refine s_val rfl rfl (v_load1 rfl rfl Try.underlying9 rfl (cx.cell 0 rfl rfl)) ?_
    have cx34 := cx
    refine s_fn cx (c80g 48 b _ a.fields[i].1 _ (deep_mono _ _ _ (deep_of_okd _ _ hob) (by omega)) (by omega) ((hz.trans hh).rep hvb).val hfb1 (by
      by_cases h7 : b.sc.kind = 7
      · exact .inl h7
      · exact .inr (List.eq_nil_of_length_eq_zero (hob.1.fields h7)))) Try.func80 rfl rfl rfl rfl rfl rfl ?_; intro q34 w cx hw34 hp34
    obtain ⟨lu, bb, rfl, hlul, hluo, hlm⟩ := hp34
    have hO8 := RepO.copied cx34 hw34 hlm
    obtain ⟨hbb, hlu⟩ := hO8
    replace hh := hh.trans (Fz.belC cx hw34)
    replace hrv := (Fz.belC cx hw34).rep hrv
    refine s_val rfl rfl (v_move rfl rfl) ?_
    refine s_val rfl rfl (v_extract rfl rfl rfl) ?_
    refine s_val rfl rfl (v_extract rfl rfl rfl) ?_
    refine s_alloc cx z33 rfl rfl rfl ?_; intro b11 w cx hb11 hw11
    refine s_storeAllG cx 0 rfl rfl rfl rfl rfl rfl (by rw [hlul]; exact sz33) (by rw [hlul]; rfl) hluo ?_; intro w cx hg11
    replace cx := cx.set0
    replace hh := hh.trans (Fz.newSet cx hb11 hw11 hg11)
    replace hrv := (Fz.newSet cx hb11 hw11 hg11).rep hrv
    replace hlu := (Fz.newSet cx hb11 hw11 hg11).repO hlu
    refine s_val rfl rfl (v_assign rfl rfl) ?_
    refine wpList_nil ?_
    refine wp_seq ?_
    refine wp_region_lit ?_
    refine s_val rfl rfl (v_move rfl rfl) ?_
    refine wpList_nil ?_
    refine c_split rfl (fun hc37 => ?_) (fun hc37 => ?_)
    · skip
      have hO9 := Option.isSome_iff_exists.1 (hbb.symm.trans hc37)
      obtain ⟨u, hu⟩ := hO9
      replace hlu := hlu u hu
      rw [hu, List.length_append] at hb1
      dsimp only at hb1
      refine w_ord cx (cx.pick2 1 0 rfl rfl rfl) mixed [(0, 38), (1, 39), (2, 40), (3, 41), (6, 44), (7, 45), (8, 46)] #[true, true, true, true, false, false, true, true, true, false, false] (by kernel_rfl) (by kernel_rfl) (by kernel_rfl) (by kernel_rfl) ?_
      refine pu_one rfl (wnt_none rfl) (fun w cx => v_move rfl hs0) ?_
      refine pu_one rfl (wnt_none rfl) (fun w cx => v_move rfl hs1) ?_
      refine pu_one rfl (wnt_none rfl) (fun w cx => v_fa fa77_0 rfl rfl) ?_
      refine pu_one rfl (wnt_none rfl) (fun w cx => v_load1 rfl rfl Try.underlying9 rfl (cx.cell 0 rfl rfl)) ?_
      refine pu_one rfl (wnt_none rfl) (fun w cx => v_fa fa77_1 rfl rfl) ?_
      refine pu_one rfl (wnt_none rfl) (fun w cx => v_load rfl rfl Try.underlying33 rfl sz33 ((cx.row 0 rfl).tail) rfl) ?_
      refine pu_one rfl (wnt_none rfl) (fun w cx => v_load rfl rfl Try.underlying33 rfl sz33 (cx.row 1 rfl) hlul) ?_
      refine pu_nil ?_; intro w cx hwD6
      replace hh := hh.trans (Fz.belC cx hwD6)
      replace hrv := (Fz.belC cx hwD6).rep hrv
      replace hlu := (Fz.belC cx hwD6).rep hlu
      refine x_one (i := 4) (by kernel_rfl) rfl ?_
      refine s_fn cx (c82 a.fields[i].1 _) Try.func82 rfl rfl rfl rfl rfl rfl ?_; intro q42 w cx hw42 hp42
      subst hp42
      replace hh := hh.trans (Fz.belC cx hw42)
      replace hrv := (Fz.belC cx hw42).rep hrv
      replace hlu := (Fz.belC cx hw42).rep hlu
      refine x_next ⟨.inl (cx.pick2 1 0 rfl rfl rfl), ?_⟩
      refine x_one (i := 5) (by kernel_rfl) rfl ?_
      have cx43 := cx
      refine s_fn cx (c81 (keyS a.fields[i].1) _ p _ _ F.lt ((hz.trans hh).pth hpp) (by omega)) Try.func81 rfl rfl rfl rfl rfl rfl ?_; intro q43 w cx hw43 hp43
      replace hp43 := hp43.fr cx43 hw43.size
      replace hh := hh.trans (Fz.belC cx hw43)
      replace hrv := (Fz.belC cx hw43).rep hrv
      replace hlu := (Fz.belC cx hw43).rep hlu
      refine x_next ⟨.inl (cx.pick2 1 0 rfl rfl rfl), ?_⟩
      refine x_one (i := 9) (by kernel_rfl) rfl ?_
      refine s_callR rfl rfl (runs_fn Try.func65 rfl rfl rfl rfl) (ih wb _ _ x _ _ (p ++ [keyS a.fields[i].1]) _ a.fields[i].2 u _ _ _ cx hp43 hrv hlu (hoa.2.2.2 _ hkm) (hob.2.2.2 _ (hasF_mem hu)) (hfa1.field hkm).2 (hfb1.field (hasF_mem hu)).2 (hnar.field hkm hu) (by rw [List.length_append, List.length_singleton]; omega) (by omega) (by omega)) ?_; intro q47 w hp47
      obtain ⟨S2, rs2, hsh2, cx, hz2, hcf2⟩ := hp47
      replace hh := hh.trans hz2
      refine x_next ⟨.inr (by kernel_rfl), ?_⟩
      refine x_one (i := 10) (by kernel_rfl) rfl ?_
      refine s_val rfl rfl (v_assign rfl rfl) ?_
      refine x_next ⟨.inr (by kernel_rfl), ?_⟩
      refine x_done (by kernel_rfl) ?_
      refine wp_region_lit ?_
      refine s_val rfl rfl (v_add rfl hs26 rfl (by omega) (by omega)) ?_
      refine s_val rfl rfl (v_move rfl rfl) ?_
      refine wpList_nil ?_
      refine ⟨gk2 - 1, _, by omega, rfl, i + 1, q47, S ++ S2, rs ++ rs2, by omega, rfl, hs1, hs6, hs7, hs24, hs25, rfl, (hsh.append hsh2).cast (by rw [kepC_take _ _ _ hil, hu]), LpC.of ?_ ?_ cx.tl.tl (hz.trans (hh.trans (Fz.tl.trans Fz.tl))) (Rws.append ((hh.trans (Fz.tl.trans Fz.tl)).chs hcf) ((Fz.tl.trans Fz.tl).chs hcf2))⟩
      · simp only [List.length_append, List.length_singleton]; omega
      · simp
    have hu : hasF a.fields[i].1 b.fields = none := by
      cases hx : hasF a.fields[i].1 b.fields with
      | none => rfl
      | some u => rw [hx] at hbb; rw [hbb] at hc37; cases hc37
    refine wp_skip ?_
    refine wp_region_lit ?_
    refine s_val rfl rfl (v_add rfl hs26 rfl (by omega) (by omega)) ?_
    refine s_val rfl rfl (v_move rfl rfl) ?_
    refine wpList_nil ?_
    refine ⟨gk2 - 1, _, by omega, rfl, i + 1, x, S, rs, by omega, hs0, hs1, hs6, hs7, hs24, hs25, rfl, hsh.cast (by rw [kepC_take _ _ _ hil, hu]; simp), LpC.of rfl rfl cx.tl.tl (hz.trans (hh.trans (Fz.tl.trans Fz.tl))) ((hh.trans (Fz.tl.trans Fz.tl)).chs hcf)⟩
  try simp only [bsl] at hc27
  refine wp_exit ?_
  refine wp_seq ?_
  refine wp_region_lit ?_
  refine s_val rfl rfl (v_assign rfl rfl) ?_
  refine wpList_nil ?_
  refine wp_seq ?_
  refine wp_seq ?_
  refine wp_region_lit ?_
  refine s_val rfl rfl (v_fa fa33_7 rfl hs6) ?_
  refine s_val rfl rfl (v_load1 rfl rfl Try.underlying31 rfl (cx.cell 1 rfl rfl)) ?_
  refine s_val rfl rfl (v_lenSlice rfl rfl Try.underlying31) ?_
  refine s_val rfl rfl (v_move rfl rfl) ?_
  refine wpList_nil ?_
  refine wp_block ?_
  have hia : i = a.fields.length := by omega
  subst hia
  rw [List.take_of_length_le (Nat.le_refl _)] at hsh
  refine w_loop (fun k f w1 => ∃ (i : Nat) (x : Value) (S : List Ch) (rs : List (List Value)), k + i = a.fields.length ∧ f 0 = x ∧ f 1 = ps ∧ f 6 = .pointer (some ⟨b6, 0, none⟩) ∧ f 7 = .pointer (some ⟨b7, 0, none⟩) ∧ f 13 = .int .i64 ((i - nkep b.fields (a.fields.take i) : Nat) : Int) ∧ f 50 = .slice fa a.fields.length fc ∧ f 51 = .int .i64 (a.fields.length : Nat) ∧ f 52 = .int .i64 (i : Nat) ∧ Sho n (kepC (btw E d) p b.fields a.fields ++ remC p b.fields (a.fields.take i) 0) S ∧ LpC wb w0 L (⟨35, 29, v, n, cs⟩ :: R) ((b7, .cells (vrow b.sc bbs bls (.slice ga b.fields.length gc)).toArray 33) :: (b6, .cells (vrow a.sc abs als (.slice fa a.fields.length fc)).toArray 33) :: L) R n cs S x rs w1) (a.fields.length) ?_ ?_
  · skip
    exact ⟨0, x, S, rs, by omega, hs0, hs1, hs6, hs7, rfl, rfl, rfl, rfl, hsh.cast (by simp [remC]), LpC.of rfl rfl cx hz hcf⟩
  intro gk10 f w hJ
  obtain ⟨i, x, S, rs, hki, hs0, hs1, hs6, hs7, hs13, hs50, hs51, hs52, hsh, cx, hz, hcf⟩ := hJ
  refine wp_seq ?_
  refine wp_region_lit ?_
  refine s_val rfl rfl (v_cmp rfl hs52 hs51 rfl) ?_
  refine wpList_nil ?_
  refine wp_seq ?_
  refine c_split rfl (fun hc53 => ?_) (fun hc53 => ?_)
  · skip
    try simp only [bsl] at hc53
    have hil : i < a.fields.length := by omega
    have hO10 := hfa (by omega)
    obtain rfl := hO10
    have hFfb := hfsl.inA (by omega)
    have hO11 := fld_at hz hfreps hil hFfb
    obtain ⟨r, hr, hrv⟩ := hO11
    have hO12 := hrv.open
    obtain ⟨ebs, els, efs, rfl, _⟩ := hO12
    have hkm : a.fields[i] ∈ a.fields := List.getElem_mem _
    have hh := hz.self
    have hb1 := remC_le p b.fields a.fields (i + 1)
    rw [remC_take p b.fields hil] at hb1
    have hnk := nkep_take b.fields hil
    have hnl := nkep_le b.fields (a.fields.take i)
    rw [List.length_take] at hnl
    have hSl := hsh.1
    rw [List.length_append] at hSl
    refine wp_skip ?_
    refine wp_seq ?_
    refine wp_block ?_
    refine wp_seq ?_
    refine wp_region_lit ?_
    refine s_val rfl rfl (v_move rfl hs52) ?_
    refine s_val rfl rfl (v_ia Try.underlying31 sz77 rfl hs50 hs52 (by omega) (by omega)) ?_
    refine s_val rfl rfl (v_load rfl rfl Try.underlying77 rfl sz77 hr rfl) ?_
    refine s_alloc cx z77 rfl rfl rfl ?_; intro b15 w cx hb15 hw15
    refine s_val rfl rfl (v_assign rfl rfl) ?_
    refine s_storeAllG cx 0 rfl rfl rfl rfl rfl rfl sz77 rfl (rowF_one hrv) ?_; intro w cx hg15
    replace cx := cx.set0
    replace hh := hh.trans (Fz.newSet cx hb15 hw15 hg15)
    replace hrv := (Fz.newSet cx hb15 hw15 hg15).rep hrv
    refine wpList_nil ?_
    refine wp_seq ?_
    refine wp_region_lit ?_
    refine s_val rfl rfl (v_load rfl hs7 Try.underlying33 rfl sz33 (cx.row 1 rfl) rfl) ?_
    refine s_val rfl rfl (v_fa fa77_0 rfl rfl) ?_
    refine s_val rfl rfl (v_load1 rfl rfl Try.underlying9 rfl (cx.cell 0 rfl rfl)) ?_
    have cx61 := cx
    refine s_fn cx (c80g 48 b _ a.fields[i].1 _ (deep_mono _ _ _ (deep_of_okd _ _ hob) (by omega)) (by omega) ((hz.trans hh).rep hvb).val hfb1 (by
      by_cases h7 : b.sc.kind = 7
      · exact .inl h7
      · exact .inr (List.eq_nil_of_length_eq_zero (hob.1.fields h7)))) Try.func80 rfl rfl rfl rfl rfl rfl ?_; intro q61 w cx hw61 hp61
    obtain ⟨lu, bb, rfl, hlul, hluo, hlm⟩ := hp61
    have hO13 := RepO.copied cx61 hw61 hlm
    obtain ⟨hbb, hlu⟩ := hO13
    replace hh := hh.trans (Fz.belC cx hw61)
    replace hrv := (Fz.belC cx hw61).rep hrv
    refine s_val rfl rfl (v_move rfl rfl) ?_
    refine s_val rfl rfl (v_extract rfl rfl rfl) ?_
    refine s_val rfl rfl (v_extract rfl rfl rfl) ?_
    refine s_alloc cx z33 rfl rfl rfl ?_; intro b16 w cx hb16 hw16
    refine s_storeAllG cx 0 rfl rfl rfl rfl rfl rfl (by rw [hlul]; exact sz33) (by rw [hlul]; rfl) hluo ?_; intro w cx hg16
    replace cx := cx.set0
    replace hh := hh.trans (Fz.newSet cx hb16 hw16 hg16)
    replace hrv := (Fz.newSet cx hb16 hw16 hg16).rep hrv
    replace hlu := (Fz.newSet cx hb16 hw16 hg16).repO hlu
    refine s_val rfl rfl (v_assign rfl rfl) ?_
    refine wpList_nil ?_
    refine wp_seq ?_
    refine wp_region_lit ?_
    refine s_val rfl rfl (v_move rfl rfl) ?_
    refine s_val rfl rfl (v_not rfl rfl) ?_
    refine wpList_nil ?_
    refine c_split rfl (fun hc65 => ?_) (fun hc65 => ?_)
    · skip
      have hc66 : (hasF a.fields[i].1 b.fields).isSome = false := by rw [← hbb]; simpa using hc65
      rw [if_neg (by rw [hc66]; exact Bool.false_ne_true), List.length_append, List.length_singleton] at hb1
      rw [if_neg (by rw [hc66]; exact Bool.false_ne_true)] at hnk
      refine wp_seq ?_
      refine w_ord cx (cx.pick1 1 rfl) mixed [(0, 66), (1, 67), (2, 68), (3, 69), (6, 72), (7, 73), (8, 74), (9, 75), (10, 76)] #[true, true, true, true, false, false, true, true, true, true, true, false, false, false, false, false] (by kernel_rfl) (by kernel_rfl) (by kernel_rfl) (by kernel_rfl) ?_
      refine pu_one rfl (wnt_none rfl) (fun w cx => v_move rfl hs0) ?_
      refine pu_one rfl (wnt_none rfl) (fun w cx => v_move rfl hs1) ?_
      refine pu_one rfl (wnt_none rfl) (fun w cx => v_fa fa77_0 rfl rfl) ?_
      refine pu_one rfl (wnt_none rfl) (fun w cx => v_load1 rfl rfl Try.underlying9 rfl (cx.cell 0 rfl rfl)) ?_
      refine pu_one rfl (wnt_none rfl) (fun w cx => v_move rfl rfl) ?_
      refine pu_one rfl (wnt_none rfl) (fun w cx => v_move rfl hs13) ?_
      refine pu_one rfl (wnt_none rfl) (fun w cx => v_subQ rfl rfl rfl (r := ((nkep b.fields (a.fields.take i) : Nat) : Int)) (by omega) (by omega) (by omega)) ?_
      refine pu_one rfl (wnt_none rfl) (fun w cx => v_fa fa77_1 rfl rfl) ?_
      refine pu_one rfl (wnt_none rfl) (fun w cx => v_load rfl rfl Try.underlying33 rfl sz33 ((cx.row 0 rfl).tail) rfl) ?_
      refine pu_nil ?_; intro w cx hwD14
      replace hh := hh.trans (Fz.belC cx hwD14)
      replace hrv := (Fz.belC cx hwD14).rep hrv
      refine x_one (i := 4) (by kernel_rfl) rfl ?_
      refine s_fn cx (c82 a.fields[i].1 _) Try.func82 rfl rfl rfl rfl rfl rfl ?_; intro q70 w cx hw70 hp70
      subst hp70
      replace hh := hh.trans (Fz.belC cx hw70)
      replace hrv := (Fz.belC cx hw70).rep hrv
      try replace hr77 := (Fz.belC cx hw70).rep hr77
      refine x_next ⟨.inl (cx.pick1 1 rfl), ?_⟩
      refine x_one (i := 5) (by kernel_rfl) rfl ?_
      have cx71 := cx
      refine s_fn cx (c81 (keyS a.fields[i].1) _ p _ _ F.lt ((hz.trans hh).pth hpp) (by omega)) Try.func81 rfl rfl rfl rfl rfl rfl ?_; intro q71 w cx hw71 hp71
      replace hp71 := hp71.fr cx71 hw71.size
      replace hh := hh.trans (Fz.belC cx hw71)
      replace hrv := (Fz.belC cx hw71).rep hrv
      try replace hr77 := (Fz.belC cx hw71).rep hr77
      refine x_next ⟨.inl (cx.pick1 1 rfl), ?_⟩
      refine x_one (i := 11) (by kernel_rfl) rfl ?_
      have cx77 := cx
      refine s_fn cx (c60 48 (a.fields[i].2) _ _ (deep_mono _ _ _ (deep_of_okd _ _ (hoa.2.2.2 _ hkm)) (by omega)) (by omega) hrv.val ((hfa1.field hkm).2)) Try.func60 rfl rfl rfl rfl rfl rfl ?_; intro q77 w cx hw77 hp77
      have hO14 := Made.fr hp77 cx77 hw77
      obtain ⟨cb77, cl77, cf77, rfl, hr77⟩ := hO14
      replace hh := hh.trans (Fz.belC cx hw77)
      replace hrv := (Fz.belC cx hw77).rep hrv
      try replace hp71 := (Fz.belC cx hw77).pth hp71
      refine x_next ⟨.inl (cx.pick1 1 rfl), ?_⟩
      refine x_one (i := 12) (by kernel_rfl) rfl ?_
      have hO15 := hp71.sl
      obtain ⟨pa, pc, rfl⟩ := hO15
      refine s_val rfl rfl (v_build (bd35r2 _ _ _ _ _ _ _ _) rfl rfl) ?_
      refine x_next ⟨.inl (cx.pick1 1 rfl), ?_⟩
      refine x_one (i := 13) (by kernel_rfl) rfl ?_
      refine s_bsl1 cx Try.underlying22 sz35 z35 rfl rfl rfl rfl rfl rfl rfl rfl ?_; intro b79 w cx hb79 hw79
      have hr79 : RowAt w b79 0 (.int .i64 3 :: .slice pa (p ++ [keyS a.fields[i].1]).length pc :: .int .i64 (nkep b.fields (a.fields.take i) : Nat) :: (vrow a.fields[i].2.sc cb77 cl77 cf77 ++ vrow (zk 0) (.slice none 0 0) (.slice none 0 0) (.slice none 0 0))) := cx.row 0 rfl
      replace cx := cx.tl
      replace hh := hh.trans (Fz.belC cx hw79)
      replace hr77 := (Fz.belC cx hw79).rep hr77
      replace hp71 := (Fz.belC cx hw79).pth hp71
      refine x_next ⟨.inl (cx.pick1 1 rfl), ?_⟩
      refine x_one (i := 14) (by kernel_rfl) rfl ?_
      have hcn : chA (F w _ _) w (⟨3, p ++ [keyS a.fields[i].1], (nkep b.fields (a.fields.take i) : Nat), a.fields[i].2, nulV⟩ : Ch) (.int .i64 3 :: .slice pa (p ++ [keyS a.fields[i].1]).length pc :: .int .i64 (nkep b.fields (a.fields.take i) : Nat) :: (vrow a.fields[i].2.sc cb77 cl77 cf77 ++ vrow (zk 0) (.slice none 0 0) (.slice none 0 0) (.slice none 0 0))) := ⟨_, _, _, rfl, hp71, hr77, rep_nul⟩
      refine s_appendG (m := 1) cx ei35 Try.underlying22 rfl rfl rfl rfl rfl hr79 rfl (chA.one _ _ hcn) (by omega) ?_; intro v80 w cx hgr80 hnw80
      replace hh := hh.trans (Fz.appC cx hgr80 hnw80)
      replace hcn := (Fz.appC cx hgr80 hnw80).ch1 hcn
      refine x_next ⟨.inr (by kernel_rfl), ?_⟩
      refine x_one (i := 15) (by kernel_rfl) rfl ?_
      refine s_val rfl rfl (v_assign rfl rfl) ?_
      refine x_next ⟨.inr (by kernel_rfl), ?_⟩
      refine x_done (by kernel_rfl) ?_
      refine wp_region_lit ?_
      refine s_val rfl rfl (v_move rfl hs13) ?_
      refine s_val rfl rfl (v_addQ rfl rfl rfl (r := ((i + 1 - nkep b.fields (a.fields.take (i + 1)) : Nat) : Int)) (by omega) (by omega) (by omega)) ?_
      refine s_val rfl rfl (v_assign rfl rfl) ?_
      refine wpList_nil ?_
      refine wp_region_lit ?_
      refine s_val rfl rfl (v_add rfl hs52 rfl (by omega) (by omega)) ?_
      refine s_val rfl rfl (v_move rfl rfl) ?_
      refine wpList_nil ?_
      refine ⟨gk10 - 1, _, by omega, rfl, i + 1, v80, S ++ [⟨3, p ++ [keyS a.fields[i].1], (nkep b.fields (a.fields.take i) : Nat), a.fields[i].2, nulV⟩], rs ++ [_], by omega, rfl, hs1, hs6, hs7, rfl, hs50, hs51, rfl, (hsh.snoc _).cast (by rw [remC_take _ _ hil, if_neg (by rw [hc66]; exact Bool.false_ne_true), List.append_assoc]), LpC.of ?_ ?_ cx.tl.tl (hz.trans (hh.trans (Fz.tl.trans Fz.tl))) (Rws.append ((hh.trans (Fz.tl.trans Fz.tl)).chs hcf) ⟨(Fz.tl.trans Fz.tl).ch1 hcn, trivial⟩)⟩
      · simp only [List.length_append, List.length_singleton]; omega
      · simp
    have hc66 : (hasF a.fields[i].1 b.fields).isSome = true := by rw [← hbb]; simpa using hc65
    rw [if_pos hc66] at hb1 hnk
    refine wp_skip ?_
    refine wp_region_lit ?_
    refine s_val rfl rfl (v_add rfl hs52 rfl (by omega) (by omega)) ?_
    refine s_val rfl rfl (v_move rfl rfl) ?_
    refine wpList_nil ?_
    refine ⟨gk10 - 1, _, by omega, rfl, i + 1, x, S, rs, by omega, hs0, hs1, hs6, hs7, (hs13.trans (by congr 2; omega)), hs50, hs51, rfl, hsh.cast (by rw [remC_take _ _ hil, if_pos hc66, List.append_nil]), LpC.of rfl rfl cx.tl.tl (hz.trans (hh.trans (Fz.tl.trans Fz.tl))) ((hh.trans (Fz.tl.trans Fz.tl)).chs hcf)⟩
  try simp only [bsl] at hc53
  refine wp_exit ?_
  refine wp_seq ?_
  refine wp_region_lit ?_
  have hnl2 := nkep_le b.fields a.fields
  have hia : i = a.fields.length := by omega
  subst hia
  rw [List.take_of_length_le (Nat.le_refl _)] at hsh hs13
  refine s_val rfl rfl (v_fa fa33_7 rfl hs6) ?_
  refine s_val rfl rfl (v_load1 rfl rfl Try.underlying31 rfl (cx.cell 1 rfl rfl)) ?_
  refine s_val rfl rfl (v_lenSlice rfl rfl Try.underlying31) ?_
  refine s_val rfl rfl (v_move rfl hs13) ?_
  refine s_val rfl rfl (v_subQ rfl rfl rfl (r := ((nkep b.fields a.fields : Nat) : Int)) (by omega) (by omega) (by omega)) ?_
  refine s_val rfl rfl (v_assign rfl rfl) ?_
  refine wpList_nil ?_
  refine wp_seq ?_
  refine wp_seq ?_
  refine wp_region_lit ?_
  refine s_val rfl rfl (v_fa fa33_7 rfl hs7) ?_
  refine s_val rfl rfl (v_load1 rfl rfl Try.underlying31 rfl (cx.cell 0 rfl rfl)) ?_
  refine s_val rfl rfl (v_lenSlice rfl rfl Try.underlying31) ?_
  refine s_val rfl rfl (v_move rfl rfl) ?_
  refine wpList_nil ?_
  refine wp_block ?_
  refine w_loop (fun k f w1 => ∃ (i : Nat) (x : Value) (S : List Ch) (rs : List (List Value)), k + i = b.fields.length ∧ f 0 = x ∧ f 1 = ps ∧ f 6 = .pointer (some ⟨b6, 0, none⟩) ∧ f 7 = .pointer (some ⟨b7, 0, none⟩) ∧ f 18 = .int .i64 ((nkep b.fields a.fields + (i - nkep a.fields (b.fields.take i)) : Nat) : Int) ∧ f 90 = .slice ga b.fields.length gc ∧ f 91 = .int .i64 (b.fields.length : Nat) ∧ f 92 = .int .i64 (i : Nat) ∧ Sho n (kepC (btw E d) p b.fields a.fields ++ remC p b.fields a.fields 0 ++ addC p a.fields (b.fields.take i) (nkep b.fields a.fields)) S ∧ LpC wb w0 L (⟨35, 29, v, n, cs⟩ :: R) ((b7, .cells (vrow b.sc bbs bls (.slice ga b.fields.length gc)).toArray 33) :: (b6, .cells (vrow a.sc abs als (.slice fa a.fields.length fc)).toArray 33) :: L) R n cs S x rs w1) (b.fields.length) ?_ ?_
  · skip
    exact ⟨0, x, S, rs, by omega, hs0, hs1, hs6, hs7, rfl, rfl, rfl, rfl, hsh.cast (by simp [addC]), LpC.of rfl rfl cx hz hcf⟩
  intro gk19 f w hJ
  obtain ⟨i, x, S, rs, hki, hs0, hs1, hs6, hs7, hs18, hs90, hs91, hs92, hsh, cx, hz, hcf⟩ := hJ
  refine wp_seq ?_
  refine wp_region_lit ?_
  refine s_val rfl rfl (v_cmp rfl hs92 hs91 rfl) ?_
  refine wpList_nil ?_
  refine wp_seq ?_
  refine c_split rfl (fun hc93 => ?_) (fun hc93 => ?_)
  · skip
    try simp only [bsl] at hc93
    have hil : i < b.fields.length := by omega
    have hO16 := hga (by omega)
    obtain rfl := hO16
    have hFfb := hgsl.inA (by omega)
    have hO17 := fld_at hz hgreps hil hFfb
    obtain ⟨r, hr, hrv⟩ := hO17
    have hO18 := hrv.open
    obtain ⟨ebs, els, efs, rfl, _⟩ := hO18
    have hkm : b.fields[i] ∈ b.fields := List.getElem_mem _
    have hh := hz.self
    have hb1 := addC_le p a.fields (nkep b.fields a.fields) b.fields (i + 1)
    rw [addC_take p a.fields _ hil] at hb1
    have hnk := nkep_take a.fields hil
    have hnl := nkep_le a.fields (b.fields.take i)
    rw [List.length_take] at hnl
    have hnl2 := nkep_le b.fields a.fields
    have hSl := hsh.1
    rw [List.length_append, List.length_append] at hSl
    refine wp_skip ?_
    refine wp_seq ?_
    refine wp_block ?_
    refine wp_seq ?_
    refine wp_region_lit ?_
    refine s_val rfl rfl (v_ia Try.underlying31 sz77 rfl hs90 hs92 (by omega) (by omega)) ?_
    refine s_val rfl rfl (v_load rfl rfl Try.underlying77 rfl sz77 hr rfl) ?_
    refine s_alloc cx z77 rfl rfl rfl ?_; intro b20 w cx hb20 hw20
    refine s_storeAllG cx 0 rfl rfl rfl rfl rfl rfl sz77 rfl (rowF_one hrv) ?_; intro w cx hg20
    replace cx := cx.set0
    replace hh := hh.trans (Fz.newSet cx hb20 hw20 hg20)
    replace hrv := (Fz.newSet cx hb20 hw20 hg20).rep hrv
    refine wpList_nil ?_
    refine wp_seq ?_
    refine wp_region_lit ?_
    refine s_val rfl rfl (v_load rfl hs6 Try.underlying33 rfl sz33 (cx.row 2 rfl) rfl) ?_
    refine s_val rfl rfl (v_fa fa77_0 rfl rfl) ?_
    refine s_val rfl rfl (v_load1 rfl rfl Try.underlying9 rfl (cx.cell 0 rfl rfl)) ?_
    have cx100 := cx
    refine s_fn cx (c80g 48 a _ b.fields[i].1 _ (deep_mono _ _ _ (deep_of_okd _ _ hoa) (by omega)) (by omega) ((hz.trans hh).rep hva).val hfa1 (by
      by_cases h7 : a.sc.kind = 7
      · exact .inl h7
      · exact .inr (List.eq_nil_of_length_eq_zero (hoa.1.fields h7)))) Try.func80 rfl rfl rfl rfl rfl rfl ?_; intro q100 w cx hw100 hp100
    obtain ⟨lu, bb, rfl, hlul, hluo, hlm⟩ := hp100
    have hO19 := RepO.copied cx100 hw100 hlm
    obtain ⟨hbb, hlu⟩ := hO19
    replace hh := hh.trans (Fz.belC cx hw100)
    replace hrv := (Fz.belC cx hw100).rep hrv
    refine s_val rfl rfl (v_move rfl rfl) ?_
    refine s_val rfl rfl (v_extract rfl rfl rfl) ?_
    refine s_val rfl rfl (v_extract rfl rfl rfl) ?_
    refine s_alloc cx z33 rfl rfl rfl ?_; intro b21 w cx hb21 hw21
    refine s_storeAllG cx 0 rfl rfl rfl rfl rfl rfl (by rw [hlul]; exact sz33) (by rw [hlul]; rfl) hluo ?_; intro w cx hg21
    replace cx := cx.set0
    replace hh := hh.trans (Fz.newSet cx hb21 hw21 hg21)
    replace hrv := (Fz.newSet cx hb21 hw21 hg21).rep hrv
    replace hlu := (Fz.newSet cx hb21 hw21 hg21).repO hlu
    refine s_val rfl rfl (v_assign rfl rfl) ?_
    refine wpList_nil ?_
    refine wp_seq ?_
    refine wp_region_lit ?_
    refine s_val rfl rfl (v_move rfl rfl) ?_
    refine s_val rfl rfl (v_not rfl rfl) ?_
    refine wpList_nil ?_
    refine c_split rfl (fun hc104 => ?_) (fun hc104 => ?_)
    · skip
      have hc105 : (hasF b.fields[i].1 a.fields).isSome = false := by rw [← hbb]; simpa using hc104
      rw [if_neg (by rw [hc105]; exact Bool.false_ne_true), List.length_append, List.length_singleton] at hb1
      rw [if_neg (by rw [hc105]; exact Bool.false_ne_true)] at hnk
      refine wp_seq ?_
      refine w_ord cx (cx.pick1 1 rfl) mixed [(0, 105), (1, 106), (2, 107), (3, 108), (6, 111), (7, 112), (8, 113)] #[true, true, true, true, false, false, true, true, true, false, false, false, false, false] (by kernel_rfl) (by kernel_rfl) (by kernel_rfl) (by kernel_rfl) ?_
      refine pu_one rfl (wnt_none rfl) (fun w cx => v_move rfl hs0) ?_
      refine pu_one rfl (wnt_none rfl) (fun w cx => v_move rfl hs1) ?_
      refine pu_one rfl (wnt_none rfl) (fun w cx => v_fa fa77_0 rfl rfl) ?_
      refine pu_one rfl (wnt_none rfl) (fun w cx => v_load1 rfl rfl Try.underlying9 rfl (cx.cell 0 rfl rfl)) ?_
      refine pu_one rfl (wnt_none rfl) (fun w cx => v_move rfl hs18) ?_
      refine pu_one rfl (wnt_none rfl) (fun w cx => v_fa fa77_1 rfl rfl) ?_
      refine pu_one rfl (wnt_none rfl) (fun w cx => v_load rfl rfl Try.underlying33 rfl sz33 ((cx.row 0 rfl).tail) rfl) ?_
      refine pu_nil ?_; intro w cx hwD23
      replace hh := hh.trans (Fz.belC cx hwD23)
      replace hrv := (Fz.belC cx hwD23).rep hrv
      refine x_one (i := 4) (by kernel_rfl) rfl ?_
      refine s_fn cx (c82 b.fields[i].1 _) Try.func82 rfl rfl rfl rfl rfl rfl ?_; intro q109 w cx hw109 hp109
      subst hp109
      replace hh := hh.trans (Fz.belC cx hw109)
      replace hrv := (Fz.belC cx hw109).rep hrv
      try replace hr114 := (Fz.belC cx hw109).rep hr114
      refine x_next ⟨.inl (cx.pick1 1 rfl), ?_⟩
      refine x_one (i := 5) (by kernel_rfl) rfl ?_
      have cx110 := cx
      refine s_fn cx (c81 (keyS b.fields[i].1) _ p _ _ F.lt ((hz.trans hh).pth hpp) (by omega)) Try.func81 rfl rfl rfl rfl rfl rfl ?_; intro q110 w cx hw110 hp110
      replace hp110 := hp110.fr cx110 hw110.size
      replace hh := hh.trans (Fz.belC cx hw110)
      replace hrv := (Fz.belC cx hw110).rep hrv
      try replace hr114 := (Fz.belC cx hw110).rep hr114
      refine x_next ⟨.inl (cx.pick1 1 rfl), ?_⟩
      refine x_one (i := 9) (by kernel_rfl) rfl ?_
      have cx114 := cx
      refine s_fn cx (c60 48 (b.fields[i].2) _ _ (deep_mono _ _ _ (deep_of_okd _ _ (hob.2.2.2 _ hkm)) (by omega)) (by omega) hrv.val ((hfb1.field hkm).2)) Try.func60 rfl rfl rfl rfl rfl rfl ?_; intro q114 w cx hw114 hp114
      have hO20 := Made.fr hp114 cx114 hw114
      obtain ⟨cb114, cl114, cf114, rfl, hr114⟩ := hO20
      replace hh := hh.trans (Fz.belC cx hw114)
      replace hrv := (Fz.belC cx hw114).rep hrv
      try replace hp110 := (Fz.belC cx hw114).pth hp110
      refine x_next ⟨.inl (cx.pick1 1 rfl), ?_⟩
      refine x_one (i := 10) (by kernel_rfl) rfl ?_
      have hO21 := hp110.sl
      obtain ⟨pa, pc, rfl⟩ := hO21
      refine s_val rfl rfl (v_build (bd35a2 _ _ _ _ _ _ _ _) rfl rfl) ?_
      refine x_next ⟨.inl (cx.pick1 1 rfl), ?_⟩
      refine x_one (i := 11) (by kernel_rfl) rfl ?_
      refine s_bsl1 cx Try.underlying22 sz35 z35 rfl rfl rfl rfl rfl rfl rfl rfl ?_; intro b116 w cx hb116 hw116
      have hr116 : RowAt w b116 0 (.int .i64 2 :: .slice pa (p ++ [keyS b.fields[i].1]).length pc :: .int .i64 ((nkep b.fields a.fields + (i - nkep a.fields (b.fields.take i)) : Nat) : Int) :: (vrow (zk 0) (.slice none 0 0) (.slice none 0 0) (.slice none 0 0) ++ vrow b.fields[i].2.sc cb114 cl114 cf114)) := cx.row 0 rfl
      replace cx := cx.tl
      replace hh := hh.trans (Fz.belC cx hw116)
      replace hr114 := (Fz.belC cx hw116).rep hr114
      replace hp110 := (Fz.belC cx hw116).pth hp110
      refine x_next ⟨.inl (cx.pick1 1 rfl), ?_⟩
      refine x_one (i := 12) (by kernel_rfl) rfl ?_
      have hcn : chA (F w _ _) w (⟨2, p ++ [keyS b.fields[i].1], ((nkep b.fields a.fields + (i - nkep a.fields (b.fields.take i)) : Nat) : Int), nulV, b.fields[i].2⟩ : Ch) (.int .i64 2 :: .slice pa (p ++ [keyS b.fields[i].1]).length pc :: .int .i64 ((nkep b.fields a.fields + (i - nkep a.fields (b.fields.take i)) : Nat) : Int) :: (vrow (zk 0) (.slice none 0 0) (.slice none 0 0) (.slice none 0 0) ++ vrow b.fields[i].2.sc cb114 cl114 cf114)) := ⟨_, _, _, rfl, hp110, rep_nul, hr114⟩
      refine s_appendG (m := 1) cx ei35 Try.underlying22 rfl rfl rfl rfl rfl hr116 rfl (chA.one _ _ hcn) (by omega) ?_; intro v117 w cx hgr117 hnw117
      replace hh := hh.trans (Fz.appC cx hgr117 hnw117)
      replace hcn := (Fz.appC cx hgr117 hnw117).ch1 hcn
      refine x_next ⟨.inr (by kernel_rfl), ?_⟩
      refine x_one (i := 13) (by kernel_rfl) rfl ?_
      refine s_val rfl rfl (v_assign rfl rfl) ?_
      refine x_next ⟨.inr (by kernel_rfl), ?_⟩
      refine x_done (by kernel_rfl) ?_
      refine wp_region_lit ?_
      refine s_val rfl rfl (v_move rfl hs18) ?_
      refine s_val rfl rfl (v_addQ rfl rfl rfl (r := ((nkep b.fields a.fields + (i + 1 - nkep a.fields (b.fields.take (i + 1))) : Nat) : Int)) (by omega) (by omega) (by omega)) ?_
      refine s_val rfl rfl (v_assign rfl rfl) ?_
      refine wpList_nil ?_
      refine wp_region_lit ?_
      refine s_val rfl rfl (v_add rfl hs92 rfl (by omega) (by omega)) ?_
      refine s_val rfl rfl (v_move rfl rfl) ?_
      refine wpList_nil ?_
      refine ⟨gk19 - 1, _, by omega, rfl, i + 1, v117, S ++ [⟨2, p ++ [keyS b.fields[i].1], ((nkep b.fields a.fields + (i - nkep a.fields (b.fields.take i)) : Nat) : Int), nulV, b.fields[i].2⟩], rs ++ [_], by omega, rfl, hs1, hs6, hs7, rfl, hs90, hs91, rfl, (hsh.snoc _).cast (by rw [addC_take _ _ _ hil, if_neg (by rw [hc105]; exact Bool.false_ne_true), List.append_assoc]), LpC.of ?_ ?_ cx.tl.tl (hz.trans (hh.trans (Fz.tl.trans Fz.tl))) (Rws.append ((hh.trans (Fz.tl.trans Fz.tl)).chs hcf) ⟨(Fz.tl.trans Fz.tl).ch1 hcn, trivial⟩)⟩
      · simp only [List.length_append, List.length_singleton]; omega
      · simp
    have hc105 : (hasF b.fields[i].1 a.fields).isSome = true := by rw [← hbb]; simpa using hc104
    rw [if_pos hc105] at hb1 hnk
    refine wp_skip ?_
    refine wp_region_lit ?_
    refine s_val rfl rfl (v_add rfl hs92 rfl (by omega) (by omega)) ?_
    refine s_val rfl rfl (v_move rfl rfl) ?_
    refine wpList_nil ?_
    refine ⟨gk19 - 1, _, by omega, rfl, i + 1, x, S, rs, by omega, hs0, hs1, hs6, hs7, (hs18.trans (by congr 2; omega)), hs90, hs91, rfl, hsh.cast (by rw [addC_take _ _ _ hil, if_pos hc105, List.append_nil]), LpC.of rfl rfl cx.tl.tl (hz.trans (hh.trans (Fz.tl.trans Fz.tl))) ((hh.trans (Fz.tl.trans Fz.tl)).chs hcf)⟩
  try simp only [bsl] at hc93
  refine wp_exit ?_
  refine wp_seq ?_
  refine wp_region_lit ?_
  refine s_val rfl rfl (v_move rfl hs0) ?_
  refine s_val rfl rfl (v_assign rfl rfl) ?_
  refine wpList_nil ?_
  refine wp_ret ?_
  refine ret_tmp Try.results96 rfl ?_
  have hib : i = b.fields.length := by omega
  subst hib
  rw [List.take_of_length_le (Nat.le_refl _)] at hsh
  exact ⟨S, rs, hsh, (LpC.of rfl rfl cx hz hcf).drop 2⟩
end Go.Proofs.Ytmkihcdcgkdilaa
end
section
namespace Go.Proofs.Ytmkihcdcgkdilaa
open Go Go.Dk Go.RowKit
set_option linter.unusedSimpArgs false
set_option linter.unusedVariables false
attribute [local irreducible] Go.wpList Go.Code.wp Go.bodyPost Go.wpStill Go.wpQuiet
theorem v_minQ {P : Program} {o : Oper} {w : World} {ρ : Operand → Value} {t t' : TypeId} {x y : Operand} {p q r : Int} (ho : o.op = .call { callee := .builtin .min, args := #[x, y], argTypes := #[t, t'] }) (hx : ρ x = .int .i64 p) (hy : ρ y = .int .i64 q) (hr : r = min p q) : (execOp ρ o).run P w = .ok (.value (.int .i64 r)) w := by
  subst hr
  unfold execOp
  rw [ho]
  have e : (if q < p then q else p) = min p q := by rw [Int.min_def]; split <;> split <;> omega
  simp [resolve, invoke, builtin, hx, hy, run_min_int2, e]
theorem sub_two {w : World} {g i : Nat} {l : List Value} {a b : Value} (h1 : l[i]? = some a) (h2 : l[i + 1]? = some b) (hr : RowAt w g 0 l) : RowAt w g (0 + i) [a, b] := fun j x hj => by
  cases j with
  | zero =>
    obtain rfl : a = x := by simpa using hj
    exact hr i _ h1
  | succ j =>
    cases j with
    | zero =>
      obtain rfl : b = x := by simpa using hj
      have := hr (i + 1) _ h2
      rwa [show 0 + (i + 1) = 0 + i + (0 + 1) by omega] at this
    | succ j => simp at hj
set_option maxRecDepth 10000 in
set_option maxHeartbeats 6400000 in
theorem c97 (E : V → V → Bool) (hE : ∀ x y, E x y = true ↔ canon x = canon y) (d : Nat) (ih : C65 E d) (wb : World) (L : List (Nat × Obj)) (R : List Row) (v : Value) (n : Nat) (cs : List Value) (p : List Stp) (ps : Value) (a b : V) (ra rb : List Value) (w0 : World) : Cxr wb w0 L (⟨35, 29, v, n, cs⟩ :: R) → PthA (F w0 L (⟨35, 29, v, n, cs⟩ :: R)) w0 ps p → RepV (F w0 L (⟨35, 29, v, n, cs⟩ :: R)) w0 a ra → RepV (F w0 L (⟨35, 29, v, n, cs⟩ :: R)) w0 b rb → okd (d + 1) a → okd (d + 1) b → Fine a → Fine b → Nar (d + 1) a b → p.length + (d + 1) ≤ 100 → (d + 1) ≤ 48 → n + (lstC (btw E d) p a.list b.list (common E a.list b.list ++ [(a.list.length, b.list.length)]) 0 0).length ≤ 1048576 → Ret Try.prog 97 [v, ps, .agg ra.toArray, .agg rb.toArray] w0 (BtP wb w0 L R v n cs (lstC (btw E d) p a.list b.list (common E a.list b.list ++ [(a.list.length, b.list.length)]) 0 0)) := by
  intro cx hpp hva hvb hoa hob hfa1 hfb1 hnar hpd hd48 hnT
  have hO1 : ∃ PP, PP = (common E a.list b.list ++ [(a.list.length, b.list.length)]) := ⟨_, rfl⟩
  obtain ⟨PP, hPP⟩ := hO1
  have hinc := inc_common E a.list b.list
  rw [← hPP] at hnT hinc ⊢
  have hPlen := common_few E a.list b.list
  have hO2 := id (RepV.open hva)
  obtain ⟨abs, als, afs, rfl, _, hla, _⟩ := hO2
  have hO3 := id (RepV.open hvb)
  obtain ⟨bbs, bls, bfs, rfl, _, hlb, _⟩ := hO3
  have hO4 := hla.sl
  obtain ⟨a1, c1, rfl⟩ := hO4
  have hO5 := hlb.sl
  obtain ⟨a2, c2, rfl⟩ := hO5
  have hna := hnar.1
  have hnb := hnar.2.1
  have hPl0 : PP.length ≤ 6001 := by rw [hPP, List.length_append, List.length_singleton]; omega
  refine ret_enter Try.func97 rfl Try.ntmps97 rfl ?_
  refine wp_seq ?_
  refine wp_region_lit ?_
  refine s_box cx rfl rfl rfl rfl rfl ?_; intro b6 w cx hb6 hw6
  refine s_box cx rfl rfl rfl rfl rfl ?_; intro b7 w cx hb7 hw7
  refine s_val rfl rfl (v_assign rfl rfl) ?_
  refine wpList_nil ?_
  refine wp_seq ?_
  refine wp_region_lit ?_
  have hz : Fz w0 L (⟨35, 29, v, n, cs⟩ :: R) w ((b7, .cells (vrow b.sc bbs (.slice a2 b.list.length c2) bfs).toArray 33) :: (b6, .cells (vrow a.sc abs (.slice a1 a.list.length c1) afs).toArray 33) :: L) (⟨35, 29, v, n, cs⟩ :: R) := (Fz.new hb6 hw6).trans (Fz.new hb7 hw7)
  refine s_val rfl rfl (v_assign rfl rfl) ?_
  refine s_val rfl rfl (v_assign rfl rfl) ?_
  refine wpList_nil ?_
  refine wp_seq ?_
  refine w_cut (fun f w1 => ∃ (g c31 : Nat), f 0 = v ∧ f 1 = ps ∧ f 6 = .pointer (some ⟨b6, 0, none⟩) ∧ f 7 = .pointer (some ⟨b7, 0, none⟩) ∧ f 9 = .int .i64 0 ∧ f 10 = .int .i64 0 ∧ f 31 = .slice (some ⟨g, 0, none⟩) PP.length c31 ∧ f 32 = .int .i64 (PP.length : Nat) ∧ f 33 = .int .i64 0 ∧ Cxr wb w1 ((b7, .cells (vrow b.sc bbs (.slice a2 b.list.length c2) bfs).toArray 33) :: (b6, .cells (vrow a.sc abs (.slice a1 a.list.length c1) afs).toArray 33) :: L) (⟨35, 29, v, n, cs⟩ :: R) ∧ Fz w0 L (⟨35, 29, v, n, cs⟩ :: R) w1 ((b7, .cells (vrow b.sc bbs (.slice a2 b.list.length c2) bfs).toArray 33) :: (b6, .cells (vrow a.sc abs (.slice a1 a.list.length c1) afs).toArray 33) :: L) (⟨35, 29, v, n, cs⟩ :: R) ∧ F w1 ((b7, .cells (vrow b.sc bbs (.slice a2 b.list.length c2) bfs).toArray 33) :: (b6, .cells (vrow a.sc abs (.slice a1 a.list.length c1) afs).toArray 33) :: L) (⟨35, 29, v, n, cs⟩ :: R) g ∧ RowAt w1 g 0 (PP.flatMap qrow)) ?_ ?_
  · skip
    refine w_ord cx (cx.pick2 1 0 rfl rfl rfl) mixed [(0, 18), (1, 19), (2, 20), (3, 21), (5, 23), (6, 24), (7, 25), (8, 26), (9, 27), (10, 28), (11, 29), (15, 33)] #[true, true, true, true, false, true, true, true, true, true, true, true, false, false, false, true] (by kernel_rfl) (by kernel_rfl) (by kernel_rfl) (by kernel_rfl) ?_
    refine pu_one rfl (wnt_none rfl) (fun w cx => v_fa fa33_6 rfl rfl) ?_
    refine pu_one rfl (wnt_none rfl) (fun w cx => v_load1 rfl rfl Try.underlying30 rfl (cx.cell 0 rfl rfl)) ?_
    refine pu_one rfl (wnt_none rfl) (fun w cx => v_fa fa33_6 rfl rfl) ?_
    refine pu_one rfl (wnt_none rfl) (fun w cx => v_load1 rfl rfl Try.underlying30 rfl (cx.cell 1 rfl rfl)) ?_
    refine pu_one rfl (wnt_none rfl) (fun w cx => v_fa fa33_6 rfl rfl) ?_
    refine pu_one rfl (wnt_none rfl) (fun w cx => v_load1 rfl rfl Try.underlying30 rfl (cx.cell 0 rfl rfl)) ?_
    refine pu_one rfl (wnt_none rfl) (fun w cx => v_lenSlice rfl rfl Try.underlying30) ?_
    refine pu_one rfl (wnt_none rfl) (fun w cx => v_fa fa33_6 rfl rfl) ?_
    refine pu_one rfl (wnt_none rfl) (fun w cx => v_load1 rfl rfl Try.underlying30 rfl (cx.cell 1 rfl rfl)) ?_
    refine pu_one rfl (wnt_none rfl) (fun w cx => v_lenSlice rfl rfl Try.underlying30) ?_
    refine pu_one rfl (wnt_none rfl) (fun w cx => v_build (bd43 _ _) rfl rfl) ?_
    refine pu_one rfl (wnt_none rfl) (fun w cx => v_move rfl rfl) ?_
    refine pu_nil ?_; intro w cx hwD2
    replace hz := hz.trans (Fz.belC cx hwD2)
    refine x_two (i := 4) (j := 12) (by kernel_rfl) rfl rfl ?_ ?_
    · skip
      refine s_fn cx (c25 E hE a.list b.list _ _ _ (RepL.mono F.lt (fun _ _ => rfl) (hz.repL hla)) (RepL.mono F.lt (fun _ _ => rfl) (hz.repL hlb)) (fun x hx => ⟨okd_mono _ _ _ (hoa.2.2.1 _ hx) (by omega), hfa1.elem hx⟩) (fun x hx => ⟨okd_mono _ _ _ (hob.2.2.1 _ hx) (by omega), hfb1.elem hx⟩) hnar.1 hnar.2.1 hnar.2.2.1) Try.func25 rfl rfl rfl rfl rfl rfl ?_; intro q22 w cx2 hw22 hp22
      replace hz := hz.trans (Fz.adopt hw22 hp22)
      try replace hr30 := hr30.up hw22
      have hO6 := own_row hp22
      obtain ⟨ap, cp, rfl, hrp⟩ := hO6
      replace cx := cx.adopt hw22 hp22
      clear cx2
      refine x_next ⟨.inl (cx.pick2 1 0 rfl rfl rfl), ?_⟩
      refine x_one (i := 12) (by kernel_rfl) rfl ?_
      refine s_bsl1 cx Try.underlying41 sz43 z43 rfl rfl rfl rfl rfl rfl rfl rfl ?_; intro b30 w cx hb30 hw30
      have hr30 : RowAt w b30 0 [.int .i64 (a.list.length : Int), .int .i64 (b.list.length : Int)] := cx.row 0 rfl
      replace cx := cx.tl
      replace hz := hz.trans (Fz.belC cx hw30)
      refine x_next ⟨.inl (cx.pick2 1 0 rfl rfl rfl), ?_⟩
      refine x_one (i := 13) (by kernel_rfl) rfl ?_
      refine s_appendG (m := 1) cx ei43 Try.underlying41 rfl rfl rfl rfl rfl hr30 rfl rfl (by omega) ?_; intro v31 w cx hgr31 hnw31
      replace hz := hz.trans (Fz.appC cx hgr31 hnw31)
      have hO7 := cx.ownRow
      obtain ⟨a31, c31, rfl, h31⟩ := hO7
      have hO8 := h31 (by omega)
      obtain ⟨g, rfl, hrowB⟩ := hO8
      have hFg := F.row1 cx g rfl
      replace hz := hz.trans Fz.tlR
      replace cx := cx.tlR
      have hPl : PP.length = (common E a.list b.list).length + 1 := by rw [hPP, List.length_append, List.length_singleton]
      have hPf : (common E a.list b.list).flatMap qrow ++ [.int .i64 (a.list.length : Int), .int .i64 (b.list.length : Int)] = PP.flatMap qrow := by rw [hPP, qflat_snoc]; rfl
      rw [hPf] at hrowB
      rw [← hPl]
      refine x_next ⟨.inl (cx.pick2 1 0 rfl rfl rfl), ?_⟩
      refine x_one (i := 14) (by kernel_rfl) rfl ?_
      refine s_val rfl rfl (v_lenSlice rfl rfl Try.underlying41) ?_
      refine x_next ⟨.inl (cx.pick2 1 0 rfl rfl rfl), ?_⟩
      refine x_done (by kernel_rfl) ?_
      exact ⟨_, rfl, g, c31, rfl, rfl, rfl, rfl, rfl, rfl, rfl, (by rw [hPl]; rfl), rfl, cx, hz, hFg, hrowB⟩
    refine s_bsl1 cx Try.underlying41 sz43 z43 rfl rfl rfl rfl rfl rfl rfl rfl ?_; intro b30 w cx hb30 hw30
    have hr30 : RowAt w b30 0 [.int .i64 (a.list.length : Int), .int .i64 (b.list.length : Int)] := cx.row 0 rfl
    replace cx := cx.tl
    replace hz := hz.trans (Fz.belC cx hw30)
    refine x_next ⟨.inl (cx.pick2 1 0 rfl rfl rfl), ?_⟩
    refine x_one (i := 4) (by kernel_rfl) rfl ?_
    refine s_fn cx (c25 E hE a.list b.list _ _ _ (RepL.mono F.lt (fun _ _ => rfl) (hz.repL hla)) (RepL.mono F.lt (fun _ _ => rfl) (hz.repL hlb)) (fun x hx => ⟨okd_mono _ _ _ (hoa.2.2.1 _ hx) (by omega), hfa1.elem hx⟩) (fun x hx => ⟨okd_mono _ _ _ (hob.2.2.1 _ hx) (by omega), hfb1.elem hx⟩) hnar.1 hnar.2.1 hnar.2.2.1) Try.func25 rfl rfl rfl rfl rfl rfl ?_; intro q22 w cx2 hw22 hp22
    replace hz := hz.trans (Fz.adopt hw22 hp22)
    try replace hr30 := hr30.up hw22
    have hO9 := own_row hp22
    obtain ⟨ap, cp, rfl, hrp⟩ := hO9
    replace cx := cx.adopt hw22 hp22
    clear cx2
    refine x_next ⟨.inl (cx.pick2 1 0 rfl rfl rfl), ?_⟩
    refine x_one (i := 13) (by kernel_rfl) rfl ?_
    refine s_appendG (m := 1) cx ei43 Try.underlying41 rfl rfl rfl rfl rfl hr30 rfl rfl (by omega) ?_; intro v31 w cx hgr31 hnw31
    replace hz := hz.trans (Fz.appC cx hgr31 hnw31)
    have hO10 := cx.ownRow
    obtain ⟨a31, c31, rfl, h31⟩ := hO10
    have hO11 := h31 (by omega)
    obtain ⟨g, rfl, hrowB⟩ := hO11
    have hFg := F.row1 cx g rfl
    replace hz := hz.trans Fz.tlR
    replace cx := cx.tlR
    have hPl : PP.length = (common E a.list b.list).length + 1 := by rw [hPP, List.length_append, List.length_singleton]
    have hPf : (common E a.list b.list).flatMap qrow ++ [.int .i64 (a.list.length : Int), .int .i64 (b.list.length : Int)] = PP.flatMap qrow := by rw [hPP, qflat_snoc]; rfl
    rw [hPf] at hrowB
    rw [← hPl]
    refine x_next ⟨.inl (cx.pick2 1 0 rfl rfl rfl), ?_⟩
    refine x_one (i := 14) (by kernel_rfl) rfl ?_
    refine s_val rfl rfl (v_lenSlice rfl rfl Try.underlying41) ?_
    refine x_next ⟨.inl (cx.pick2 1 0 rfl rfl rfl), ?_⟩
    refine x_done (by kernel_rfl) ?_
    exact ⟨_, rfl, g, c31, rfl, rfl, rfl, rfl, rfl, rfl, rfl, (by rw [hPl]; rfl), rfl, cx, hz, hFg, hrowB⟩
  intro f w hJ
  obtain ⟨g, c31, hs0, hs1, hs6, hs7, hs9, hs10, hs31, hs32, hs33, cx, hzB, hFg, hrowB⟩ := hJ
  replace hpp := hzB.pth hpp
  replace hla := hzB.repL hla
  replace hlb := hzB.repL hlb
  have hO12 := id hla
  obtain ⟨b1, o1, hsl1, hreps1⟩ := hO12
  have hO13 := hsl1.form
  obtain ⟨a1', c1', e1, hfa1'⟩ := hO13
  cases e1
  have hO14 := id hlb
  obtain ⟨b2, o2, hsl2, hreps2⟩ := hO14
  have hO15 := hsl2.form
  obtain ⟨a2', c2', e2, hfa2'⟩ := hO15
  cases e2
  have hO16 : ∃ y, y = w := ⟨_, rfl⟩
  obtain ⟨wB, hwB⟩ := hO16
  subst hwB
  refine wp_block ?_
  refine w_loop (fun k f w1 => ∃ (t : Nat) (z : Value) (S : List Ch) (rs : List (List Value)), k + t = PP.length ∧ f 0 = z ∧ f 1 = ps ∧ f 6 = .pointer (some ⟨b6, 0, none⟩) ∧ f 7 = .pointer (some ⟨b7, 0, none⟩) ∧ f 31 = .slice (some ⟨g, 0, none⟩) PP.length c31 ∧ f 32 = .int .i64 (PP.length : Nat) ∧ f 33 = .int .i64 (t : Nat) ∧ f 9 = .int .i64 ((aft (PP.take t) 0 0).1 : Nat) ∧ f 10 = .int .i64 ((aft (PP.take t) 0 0).2 : Nat) ∧ Sho n (lstC (btw E d) p a.list b.list (PP.take t) 0 0) S ∧ LpC wb wB ((b7, .cells (vrow b.sc bbs (.slice a2 b.list.length c2) bfs).toArray 33) :: (b6, .cells (vrow a.sc abs (.slice a1 a.list.length c1) afs).toArray 33) :: L) (⟨35, 29, v, n, cs⟩ :: R) ((b7, .cells (vrow b.sc bbs (.slice a2 b.list.length c2) bfs).toArray 33) :: (b6, .cells (vrow a.sc abs (.slice a1 a.list.length c1) afs).toArray 33) :: L) R n cs S z rs w1) (PP.length) ?_ ?_
  · skip
    exact ⟨0, v, [], [], by omega, hs0, hs1, hs6, hs7, hs31, hs32, hs33, hs9, hs10, (Sho.nil n).cast (by simp [lstC]), LpC.zero cx hzB.self⟩
  intro gk3 f w hJ
  obtain ⟨t, z, S, rs, hkt, hs0, hs1, hs6, hs7, hs31, hs32, hs33, hs9, hs10, hsh, cx, hz, hcf⟩ := hJ
  refine wp_seq ?_
  refine wp_region_lit ?_
  refine s_val rfl rfl (v_cmp rfl hs33 hs32 rfl) ?_
  refine wpList_nil ?_
  refine wp_seq ?_
  refine c_split rfl (fun hc34 => ?_) (fun hc34 => ?_)
  · skip
    try simp only [bsl] at hc34
    have htl : t < PP.length := by omega
    have hO17 : ∃ i j, aft (PP.take t) 0 0 = (i, j) := ⟨_, _, rfl⟩
    obtain ⟨i, j, hij⟩ := hO17
    have hO18 : ∃ x y, PP[t] = (x, y) := ⟨_, _, rfl⟩
    obtain ⟨x, y, hxy⟩ := hO18
    have hin := inc_aft PP 0 0 t hinc htl
    have hpt : PP[t]? = some (x, y) := by rw [List.getElem?_eq_getElem htl, hxy]
    rw [hij, hxy] at hin
    rw [hij] at hs9 hs10
    obtain ⟨hix, hjy, hxa, hyb⟩ := hin
    dsimp only at hix hjy hxa hyb hs9 hs10
    have hO19 : ∃ M, M = min (x - i) (y - j) := ⟨_, rfl⟩
    obtain ⟨M, hM⟩ := hO19
    have hbl := lstC_le (btw E d) p a.list b.list PP (t + 1)
    have hlt := lstC_take (btw E d) p a.list b.list htl
    rw [hij, hxy] at hlt
    dsimp only at hlt
    rw [gapC_M _ _ _ _ _ _ _ _ M hM] at hlt
    rw [hlt] at hbl
    simp only [List.length_append, gp2_len, gp3_len] at hbl
    have hrg := hz.row hrowB hFg
    have hq1 := sub_two (qflat_at hpt).1 (qflat_at hpt).2 hrg
    refine wp_skip ?_
    refine wp_seq ?_
    refine wp_block ?_
    refine wp_seq ?_
    refine wp_region_lit ?_
    refine s_val rfl rfl (v_ia Try.underlying41 sz43 rfl hs31 hs33 (by omega) (by omega)) ?_
    refine s_val rfl rfl (v_load rfl rfl Try.underlying43 rfl sz43 hq1 rfl) ?_
    refine s_alloc cx z43 rfl rfl rfl ?_; intro b12 w cx hb12 hw12
    refine s_storeAllG cx 0 rfl rfl rfl rfl rfl rfl sz43 rfl rfl ?_; intro w cx hg12
    replace cx := cx.set0
    have hzs := Fz.newSet cx hb12 hw12 hg12
    replace hcf := hzs.chs hcf
    replace hz := hz.trans hzs
    refine wpList_nil ?_
    refine wp_seq ?_
    refine w_still cx mixed (by kernel_rfl) ?_; intro w cx hwD5
    refine t_val rfl rfl (v_iaR (r := 0) Try.underlying43 sz3 rfl rfl rfl (by omega) (by omega) rfl) ?_
    refine t_val rfl rfl (v_load1 rfl rfl Try.underlying3 rfl (cx.cell 0 rfl rfl)) ?_
    refine t_val rfl rfl (v_move rfl hs9) ?_
    refine t_val rfl rfl (v_subQ rfl rfl rfl (r := ((x - i : Nat) : Int)) (by omega) (by omega) (by omega)) ?_
    refine t_val rfl rfl (v_iaR (r := 1) Try.underlying43 sz3 rfl rfl rfl (by omega) (by omega) rfl) ?_
    refine t_val rfl rfl (v_load1 rfl rfl Try.underlying3 rfl (cx.cell 0 rfl rfl)) ?_
    refine t_val rfl rfl (v_move rfl hs10) ?_
    refine t_val rfl rfl (v_subQ rfl rfl rfl (r := ((y - j : Nat) : Int)) (by omega) (by omega) (by omega)) ?_
    refine t_val rfl rfl (v_assign rfl rfl) ?_
    refine t_val rfl rfl (v_assign rfl rfl) ?_
    refine t_nil ?_
    refine wp_seq ?_
    refine wp_seq ?_
    refine wp_region_lit ?_
    replace hz := hz.trans (Fz.belC cx hwD5)
    replace hcf := (Fz.belC cx hwD5).chs hcf
    refine s_val rfl rfl (v_move rfl rfl) ?_
    refine s_val rfl rfl (v_move rfl rfl) ?_
    refine s_val rfl rfl (v_minQ rfl rfl rfl (r := ((M : Nat) : Int)) (by omega)) ?_
    refine s_val rfl rfl (v_move rfl rfl) ?_
    refine wpList_nil ?_
    refine wp_block ?_
    refine w_loop (fun k f w1 => ∃ (s : Nat) (z : Value) (S : List Ch) (rs : List (List Value)), k + s = M ∧ f 0 = z ∧ f 1 = ps ∧ f 6 = .pointer (some ⟨b6, 0, none⟩) ∧ f 7 = .pointer (some ⟨b7, 0, none⟩) ∧ f 31 = .slice (some ⟨g, 0, none⟩) PP.length c31 ∧ f 32 = .int .i64 (PP.length : Nat) ∧ f 33 = .int .i64 (t : Nat) ∧ f 9 = .int .i64 (i : Nat) ∧ f 10 = .int .i64 (j : Nat) ∧ f 12 = .pointer (some ⟨b12, 0, none⟩) ∧ f 13 = .int .i64 ((x - i : Nat) : Int) ∧ f 14 = .int .i64 ((y - j : Nat) : Int) ∧ f 47 = .int .i64 (M : Nat) ∧ f 48 = .int .i64 (s : Nat) ∧ Sho n ((lstC (btw E d) p a.list b.list (PP.take t) 0 0) ++ gp1 (btw E d) p a.list b.list i j s) S ∧ LpC wb wB ((b7, .cells (vrow b.sc bbs (.slice a2 b.list.length c2) bfs).toArray 33) :: (b6, .cells (vrow a.sc abs (.slice a1 a.list.length c1) afs).toArray 33) :: L) (⟨35, 29, v, n, cs⟩ :: R) ((b12, .cells ([.int .i64 (x : Int), .int .i64 (y : Int)] : List Value).toArray 43) :: ((b7, .cells (vrow b.sc bbs (.slice a2 b.list.length c2) bfs).toArray 33) :: (b6, .cells (vrow a.sc abs (.slice a1 a.list.length c1) afs).toArray 33) :: L)) R n cs S z rs w1) (M) ?_ ?_
    · skip
      exact ⟨0, z, S, rs, by omega, hs0, hs1, hs6, hs7, hs31, hs32, hs33, hs9, hs10, rfl, rfl, rfl, rfl, rfl, hsh.cast (by rw [gp1_zero, List.append_nil]), LpC.of rfl rfl cx hz hcf⟩
    intro gk7 f w hJ
    obtain ⟨s, z, S, rs, hks, hs0, hs1, hs6, hs7, hs31, hs32, hs33, hs9, hs10, hs12, hs13, hs14, hs47, hs48, hsh, cx, hz, hcf⟩ := hJ
    refine wp_seq ?_
    refine wp_region_lit ?_
    refine s_val rfl rfl (v_cmp rfl hs48 hs47 rfl) ?_
    refine wpList_nil ?_
    refine wp_seq ?_
    refine c_split rfl (fun hc49 => ?_) (fun hc49 => ?_)
    · skip
      try simp only [bsl] at hc49
      have hsM : s < M := by omega
      have hgl := gp1_le (btw E d) p a.list b.list i j (show s + 1 ≤ M by omega)
      have hO20 := hfa1' (by omega)
      obtain rfl := hO20
      have hF1 := hsl1.inA (by omega)
      have hO21 := lst_at hz hreps1 (i := i + s) (by omega) hF1
      obtain ⟨r1, hr1, hv1⟩ := hO21
      replace hF1 := hz.up _ hF1
      have hge1 := getD_at (l := a.list) (i := i + s) (by omega)
      have hO22 := hfa2' (by omega)
      obtain rfl := hO22
      have hF2 := hsl2.inA (by omega)
      have hO23 := lst_at hz hreps2 (i := j + s) (by omega) hF2
      obtain ⟨r2, hr2, hv2⟩ := hO23
      replace hF2 := hz.up _ hF2
      have hge2 := getD_at (l := b.list) (i := j + s) (by omega)
      rw [gp1_succ, hge1, hge2, List.length_append] at hgl
      have hSl := hsh.1
      rw [List.length_append] at hSl
      have hh := hz.self
      refine wp_skip ?_
      refine wp_seq ?_
      refine wp_block ?_
      refine wp_seq ?_
      refine wp_region_lit ?_
      refine s_val rfl rfl (v_move rfl hs48) ?_
      refine s_val rfl rfl (v_assign rfl rfl) ?_
      refine wpList_nil ?_
      refine w_ordK cx (cx.pick2 1 2 rfl rfl rfl) hh.kp mixed [(0, 51), (1, 52), (2, 53), (3, 54), (4, 55), (7, 58), (8, 59), (9, 60), (10, 61), (11, 62), (12, 63), (13, 64), (14, 65), (15, 66), (16, 67), (17, 68), (18, 69), (19, 70), (20, 71)] #[true, true, true, true, true, false, false, true, true, true, true, true, true, true, true, true, true, true, true, true, true, false, false] (by kernel_rfl) (by kernel_rfl) (by kernel_rfl) (by kernel_rfl) ?_
      refine pu_one rfl (wnt_none rfl) (fun w hS => by obtain ⟨cx, hkS⟩ := hS; exact v_move rfl hs0) ?_
      refine pu_one rfl (wnt_none rfl) (fun w hS => by obtain ⟨cx, hkS⟩ := hS; exact v_move rfl hs1) ?_
      refine pu_one rfl (wnt_none rfl) (fun w hS => by obtain ⟨cx, hkS⟩ := hS; exact v_move rfl hs10) ?_
      refine pu_one rfl (wnt_none rfl) (fun w hS => by obtain ⟨cx, hkS⟩ := hS; exact v_move rfl rfl) ?_
      refine pu_one rfl (wnt_none rfl) (fun w hS => by obtain ⟨cx, hkS⟩ := hS; exact v_addQ rfl rfl rfl (r := ((j + s : Nat) : Int)) (by omega) (by omega) (by omega)) ?_
      refine pu_one rfl (wnt_none rfl) (fun w hS => by obtain ⟨cx, hkS⟩ := hS; exact v_fa fa33_6 rfl hs6) ?_
      refine pu_one rfl (wnt_none rfl) (fun w hS => by obtain ⟨cx, hkS⟩ := hS; exact v_load1 rfl rfl Try.underlying30 rfl (cx.cell 1 rfl rfl)) ?_
      refine pu_one rfl (wnt_none rfl) (fun w hS => by obtain ⟨cx, hkS⟩ := hS; exact v_move rfl hs9) ?_
      refine pu_one rfl (wnt_none rfl) (fun w hS => by obtain ⟨cx, hkS⟩ := hS; exact v_move rfl rfl) ?_
      refine pu_one rfl (wnt_none rfl) (fun w hS => by obtain ⟨cx, hkS⟩ := hS; exact v_addQ rfl rfl rfl (r := ((i + s : Nat) : Int)) (by omega) (by omega) (by omega)) ?_
      refine pu_one rfl (wnt_none rfl) (fun w hS => by obtain ⟨cx, hkS⟩ := hS; exact v_ia Try.underlying30 sz33 rfl rfl rfl (by omega) (by omega)) ?_
      refine pu_one rfl (wnt_none rfl) (fun w hS => by obtain ⟨cx, hkS⟩ := hS; exact v_load rfl rfl Try.underlying33 rfl sz33 (hr1.keep (hkS _ hF1)) hv1.len) ?_
      refine pu_one rfl (wnt_none rfl) (fun w hS => by obtain ⟨cx, hkS⟩ := hS; exact v_fa fa33_6 rfl hs7) ?_
      refine pu_one rfl (wnt_none rfl) (fun w hS => by obtain ⟨cx, hkS⟩ := hS; exact v_load1 rfl rfl Try.underlying30 rfl (cx.cell 0 rfl rfl)) ?_
      refine pu_one rfl (wnt_none rfl) (fun w hS => by obtain ⟨cx, hkS⟩ := hS; exact v_move rfl hs10) ?_
      refine pu_one rfl (wnt_none rfl) (fun w hS => by obtain ⟨cx, hkS⟩ := hS; exact v_move rfl rfl) ?_
      refine pu_one rfl (wnt_none rfl) (fun w hS => by obtain ⟨cx, hkS⟩ := hS; exact v_addQ rfl rfl rfl (r := ((j + s : Nat) : Int)) (by omega) (by omega) (by omega)) ?_
      refine pu_one rfl (wnt_none rfl) (fun w hS => by obtain ⟨cx, hkS⟩ := hS; exact v_ia Try.underlying30 sz33 rfl rfl rfl (by omega) (by omega)) ?_
      refine pu_one rfl (wnt_none rfl) (fun w hS => by obtain ⟨cx, hkS⟩ := hS; exact v_load rfl rfl Try.underlying33 rfl sz33 (hr2.keep (hkS _ hF2)) hv2.len) ?_
      refine pu_nil ?_; intro w cx hwD9 hkS9
      replace hh := hh.trans (Fz.belC cx hwD9)
      replace hv1 := (Fz.belC cx hwD9).rep hv1
      replace hv2 := (Fz.belC cx hwD9).rep hv2
      refine x_one (i := 5) (by kernel_rfl) rfl ?_
      refine s_fn cx (c83 (j + s) _) Try.func83 rfl rfl rfl rfl rfl rfl ?_; intro q56 w cx hw56 hp56
      subst hp56
      replace hh := hh.trans (Fz.belC cx hw56)
      replace hv1 := (Fz.belC cx hw56).rep hv1
      replace hv2 := (Fz.belC cx hw56).rep hv2
      refine x_next ⟨.inl ⟨cx.pick2 1 2 rfl rfl rfl, hh.kp⟩, ?_⟩
      refine x_one (i := 6) (by kernel_rfl) rfl ?_
      have cx57 := cx
      refine s_fn cx (c81 (idxS (j + s)) _ p _ _ F.lt ((hz.trans hh).pth hpp) (by omega)) Try.func81 rfl rfl rfl rfl rfl rfl ?_; intro q57 w cx hw57 hp57
      replace hp57 := hp57.fr cx57 hw57.size
      replace hh := hh.trans (Fz.belC cx hw57)
      replace hv1 := (Fz.belC cx hw57).rep hv1
      replace hv2 := (Fz.belC cx hw57).rep hv2
      refine x_next ⟨.inl ⟨cx.pick2 1 2 rfl rfl rfl, hh.kp⟩, ?_⟩
      refine x_one (i := 21) (by kernel_rfl) rfl ?_
      refine s_callR rfl rfl (runs_fn Try.func65 rfl rfl rfl rfl) (ih wb _ _ z _ _ (p ++ [idxS (j + s)]) _ a.list[i + s] b.list[j + s] _ _ _ cx hp57 hv1 hv2 (hoa.2.2.1 _ (List.getElem_mem _)) (hob.2.2.1 _ (List.getElem_mem _)) (hfa1.elem (List.getElem_mem _)) (hfb1.elem (List.getElem_mem _)) (hnar.elem (List.getElem_mem _) (List.getElem_mem _)) (by rw [List.length_append, List.length_singleton]; omega) (by omega) (by omega)) ?_; intro q72 w hp72
      obtain ⟨S2, rs2, hsh2, cx, hz2, hcf2⟩ := hp72
      replace hh := hh.trans hz2
      refine x_next ⟨.inr (by kernel_rfl), ?_⟩
      refine x_one (i := 22) (by kernel_rfl) rfl ?_
      refine s_val rfl rfl (v_assign rfl rfl) ?_
      refine x_next ⟨.inr (by kernel_rfl), ?_⟩
      refine x_done (by kernel_rfl) ?_
      refine wp_region_lit ?_
      refine s_val rfl rfl (v_addQ rfl hs48 rfl (r := ((s + 1 : Nat) : Int)) (by omega) (by omega) (by omega)) ?_
      refine s_val rfl rfl (v_move rfl rfl) ?_
      refine wpList_nil ?_
      refine ⟨gk7 - 1, _, by omega, rfl, s + 1, q72, S ++ S2, rs ++ rs2, by omega, rfl, hs1, hs6, hs7, hs31, hs32, hs33, hs9, hs10, hs12, hs13, hs14, hs47, rfl, (hsh.append hsh2).cast (by rw [gp1_succ, hge1, hge2, List.append_assoc]), LpC.of ?_ ?_ cx (hz.trans hh) (Rws.append (hh.chs hcf) hcf2)⟩
      · simp only [List.length_append]; omega
      · simp
    try simp only [bsl] at hc49
    refine wp_exit ?_
    refine wp_seq ?_
    refine wp_seq ?_
    refine wp_region_lit ?_
    refine s_val rfl rfl (v_move rfl hs14) ?_
    refine s_val rfl rfl (v_assign rfl rfl) ?_
    refine wpList_nil ?_
    refine wp_block ?_
    have hsM : M = s := by omega
    subst hsM
    refine w_loop (fun k f w1 => ∃ (s : Nat) (z : Value) (S : List Ch) (rs : List (List Value)), k + s = x - i - (y - j) ∧ f 0 = z ∧ f 1 = ps ∧ f 6 = .pointer (some ⟨b6, 0, none⟩) ∧ f 7 = .pointer (some ⟨b7, 0, none⟩) ∧ f 31 = .slice (some ⟨g, 0, none⟩) PP.length c31 ∧ f 32 = .int .i64 (PP.length : Nat) ∧ f 33 = .int .i64 (t : Nat) ∧ f 9 = .int .i64 (i : Nat) ∧ f 10 = .int .i64 (j : Nat) ∧ f 12 = .pointer (some ⟨b12, 0, none⟩) ∧ f 13 = .int .i64 ((x - i : Nat) : Int) ∧ f 14 = .int .i64 ((y - j : Nat) : Int) ∧ f 16 = .int .i64 ((y - j + s : Nat) : Int) ∧ Sho n ((lstC (btw E d) p a.list b.list (PP.take t) 0 0) ++ gp1 (btw E d) p a.list b.list i j M ++ gp2 p a.list i j M s) S ∧ LpC wb wB ((b7, .cells (vrow b.sc bbs (.slice a2 b.list.length c2) bfs).toArray 33) :: (b6, .cells (vrow a.sc abs (.slice a1 a.list.length c1) afs).toArray 33) :: L) (⟨35, 29, v, n, cs⟩ :: R) ((b12, .cells ([.int .i64 (x : Int), .int .i64 (y : Int)] : List Value).toArray 43) :: ((b7, .cells (vrow b.sc bbs (.slice a2 b.list.length c2) bfs).toArray 33) :: (b6, .cells (vrow a.sc abs (.slice a1 a.list.length c1) afs).toArray 33) :: L)) R n cs S z rs w1) (x - i - (y - j)) ?_ ?_
    · skip
      exact ⟨0, z, S, rs, by omega, hs0, hs1, hs6, hs7, hs31, hs32, hs33, hs9, hs10, hs12, hs13, hs14, rfl, hsh.cast (by rw [gp2_zero, List.append_nil]), LpC.of rfl rfl cx hz hcf⟩
    intro gk12 f w hJ
    obtain ⟨s, z, S, rs, hks, hs0, hs1, hs6, hs7, hs31, hs32, hs33, hs9, hs10, hs12, hs13, hs14, hs16, hsh, cx, hz, hcf⟩ := hJ
    refine wp_seq ?_
    refine wp_seq ?_
    refine wp_region_lit ?_
    refine s_val rfl rfl (v_move rfl hs16) ?_
    refine s_val rfl rfl (v_move rfl hs13) ?_
    refine s_val rfl rfl (v_cmp rfl rfl rfl rfl) ?_
    refine wpList_nil ?_
    refine c_split rfl (fun hc77 => ?_) (fun hc77 => ?_)
    · skip
      try simp only [bsl] at hc77
      have hsM : s < x - i - (y - j) := by omega
      have hMy : M = y - j := by omega
      have hO24 := hfa1' (by omega)
      obtain rfl := hO24
      have hF1 := hsl1.inA (by omega)
      have hO25 := lst_at hz hreps1 (i := i + M + s) (by omega) hF1
      obtain ⟨r1, hr1, hv1⟩ := hO25
      replace hF1 := hz.up _ hF1
      have hge1 := getD_at (l := a.list) (i := i + M + s) (by omega)
      have hSl := hsh.1
      simp only [List.length_append, gp2_len] at hSl
      have hh := hz.self
      refine wp_skip ?_
      refine wp_seq ?_
      refine wp_block ?_
      refine w_ordK cx (cx.pick2 1 2 rfl rfl rfl) hh.kp mixed [(0, 80), (1, 81), (2, 82), (3, 83), (4, 84), (7, 87), (8, 88), (9, 89), (10, 90), (11, 91), (12, 92), (13, 93)] #[true, true, true, true, true, false, false, true, true, true, true, true, true, true, false, false, false, false, false] (by kernel_rfl) (by kernel_rfl) (by kernel_rfl) (by kernel_rfl) ?_
      refine pu_one rfl (wnt_none rfl) (fun w hS => by obtain ⟨cx, hkS⟩ := hS; exact v_move rfl hs0) ?_
      refine pu_one rfl (wnt_none rfl) (fun w hS => by obtain ⟨cx, hkS⟩ := hS; exact v_move rfl hs1) ?_
      refine pu_one rfl (wnt_none rfl) (fun w hS => by obtain ⟨cx, hkS⟩ := hS; exact v_move rfl hs10) ?_
      refine pu_one rfl (wnt_none rfl) (fun w hS => by obtain ⟨cx, hkS⟩ := hS; exact v_move rfl hs14) ?_
      refine pu_one rfl (wnt_none rfl) (fun w hS => by obtain ⟨cx, hkS⟩ := hS; exact v_addQ rfl rfl rfl (r := ((j + M : Nat) : Int)) (by omega) (by omega) (by omega)) ?_
      refine pu_one rfl (wnt_none rfl) (fun w hS => by obtain ⟨cx, hkS⟩ := hS; exact v_fa fa33_6 rfl hs6) ?_
      refine pu_one rfl (wnt_none rfl) (fun w hS => by obtain ⟨cx, hkS⟩ := hS; exact v_load1 rfl rfl Try.underlying30 rfl (cx.cell 1 rfl rfl)) ?_
      refine pu_one rfl (wnt_none rfl) (fun w hS => by obtain ⟨cx, hkS⟩ := hS; exact v_move rfl hs9) ?_
      refine pu_one rfl (wnt_none rfl) (fun w hS => by obtain ⟨cx, hkS⟩ := hS; exact v_move rfl hs16) ?_
      refine pu_one rfl (wnt_none rfl) (fun w hS => by obtain ⟨cx, hkS⟩ := hS; exact v_addQ rfl rfl rfl (r := ((i + M + s : Nat) : Int)) (by omega) (by omega) (by omega)) ?_
      refine pu_one rfl (wnt_none rfl) (fun w hS => by obtain ⟨cx, hkS⟩ := hS; exact v_ia Try.underlying30 sz33 rfl rfl rfl (by omega) (by omega)) ?_
      refine pu_one rfl (wnt_none rfl) (fun w hS => by obtain ⟨cx, hkS⟩ := hS; exact v_load rfl rfl Try.underlying33 rfl sz33 (hr1.keep (hkS _ hF1)) hv1.len) ?_
      refine pu_nil ?_; intro w cx hwD14 hkS14
      replace hh := hh.trans (Fz.belC cx hwD14)
      replace hv1 := (Fz.belC cx hwD14).rep hv1
      refine x_one (i := 5) (by kernel_rfl) rfl ?_
      refine s_fn cx (c83 (j + M) _) Try.func83 rfl rfl rfl rfl rfl rfl ?_; intro q85 w cx hw85 hp85
      subst hp85
      replace hh := hh.trans (Fz.belC cx hw85)
      replace hv1 := (Fz.belC cx hw85).rep hv1
      try replace hr94 := (Fz.belC cx hw85).rep hr94
      refine x_next ⟨.inl ⟨cx.pick2 1 2 rfl rfl rfl, hh.kp⟩, ?_⟩
      refine x_one (i := 6) (by kernel_rfl) rfl ?_
      have cx86 := cx
      refine s_fn cx (c81 (idxS (j + M)) _ p _ _ F.lt ((hz.trans hh).pth hpp) (by omega)) Try.func81 rfl rfl rfl rfl rfl rfl ?_; intro q86 w cx hw86 hp86
      replace hp86 := hp86.fr cx86 hw86.size
      replace hh := hh.trans (Fz.belC cx hw86)
      replace hv1 := (Fz.belC cx hw86).rep hv1
      try replace hr94 := (Fz.belC cx hw86).rep hr94
      refine x_next ⟨.inl ⟨cx.pick2 1 2 rfl rfl rfl, hh.kp⟩, ?_⟩
      refine x_one (i := 14) (by kernel_rfl) rfl ?_
      have cx94 := cx
      refine s_fn cx (c60 48 (a.list[i + M + s]) _ _ (deep_mono _ _ _ (deep_of_okd _ _ (hoa.2.2.1 _ (List.getElem_mem _))) (by omega)) (by omega) hv1.val (hfa1.elem (List.getElem_mem _))) Try.func60 rfl rfl rfl rfl rfl rfl ?_; intro q94 w cx hw94 hp94
      have hO26 := Made.fr hp94 cx94 hw94
      obtain ⟨cb94, cl94, cf94, rfl, hr94⟩ := hO26
      replace hh := hh.trans (Fz.belC cx hw94)
      replace hv1 := (Fz.belC cx hw94).rep hv1
      try replace hp86 := (Fz.belC cx hw94).pth hp86
      refine x_next ⟨.inl ⟨cx.pick2 1 2 rfl rfl rfl, hh.kp⟩, ?_⟩
      refine x_one (i := 15) (by kernel_rfl) rfl ?_
      have hO27 := hp86.sl
      obtain ⟨pa, pc, rfl⟩ := hO27
      refine s_val rfl rfl (v_build (bd35r _ _ _ _ _ _ _) rfl rfl) ?_
      refine x_next ⟨.inl ⟨cx.pick2 1 2 rfl rfl rfl, hh.kp⟩, ?_⟩
      refine x_one (i := 16) (by kernel_rfl) rfl ?_
      refine s_bsl1 cx Try.underlying22 sz35 z35 rfl rfl rfl rfl rfl rfl rfl rfl ?_; intro b96 w cx hb96 hw96
      have hr96 : RowAt w b96 0 (.int .i64 3 :: .slice pa (p ++ [idxS (j + M)]).length pc :: .int .i64 0 :: (vrow a.list[i + M + s].sc cb94 cl94 cf94 ++ vrow (zk 0) (.slice none 0 0) (.slice none 0 0) (.slice none 0 0))) := cx.row 0 rfl
      replace cx := cx.tl
      replace hh := hh.trans (Fz.belC cx hw96)
      replace hr94 := (Fz.belC cx hw96).rep hr94
      replace hp86 := (Fz.belC cx hw96).pth hp86
      refine x_next ⟨.inl ⟨cx.pick2 1 2 rfl rfl rfl, hh.kp⟩, ?_⟩
      refine x_one (i := 17) (by kernel_rfl) rfl ?_
      have hcn : chA (F w _ _) w (⟨3, p ++ [idxS (j + M)], 0, a.list[i + M + s], nulV⟩ : Ch) (.int .i64 3 :: .slice pa (p ++ [idxS (j + M)]).length pc :: .int .i64 0 :: (vrow a.list[i + M + s].sc cb94 cl94 cf94 ++ vrow (zk 0) (.slice none 0 0) (.slice none 0 0) (.slice none 0 0))) := ⟨_, _, _, rfl, hp86, hr94, rep_nul⟩
      refine s_appendG (m := 1) cx ei35 Try.underlying22 rfl rfl rfl rfl rfl hr96 rfl (chA.one _ _ hcn) (by omega) ?_; intro v97 w cx hgr97 hnw97
      replace hh := hh.trans (Fz.appC cx hgr97 hnw97)
      replace hcn := (Fz.appC cx hgr97 hnw97).ch1 hcn
      refine x_next ⟨.inr (by kernel_rfl), ?_⟩
      refine x_one (i := 18) (by kernel_rfl) rfl ?_
      refine s_val rfl rfl (v_assign rfl rfl) ?_
      refine x_next ⟨.inr (by kernel_rfl), ?_⟩
      refine x_done (by kernel_rfl) ?_
      refine wp_region_lit ?_
      refine s_val rfl rfl (v_move rfl hs16) ?_
      refine s_val rfl rfl (v_addQ rfl rfl rfl (r := ((y - j + (s + 1) : Nat) : Int)) (by omega) (by omega) (by omega)) ?_
      refine s_val rfl rfl (v_assign rfl rfl) ?_
      refine wpList_nil ?_
      refine ⟨gk12 - 1, _, by omega, rfl, s + 1, v97, S ++ [⟨3, p ++ [idxS (j + M)], 0, a.list[i + M + s], nulV⟩], rs ++ [_], by omega, rfl, hs1, hs6, hs7, hs31, hs32, hs33, hs9, hs10, hs12, hs13, hs14, rfl, (hsh.snoc _).cast (by rw [gp2_succ, hge1, List.append_assoc]), LpC.of ?_ ?_ cx (hz.trans hh) (Rws.append (hh.chs hcf) ⟨hcn, trivial⟩)⟩
      · simp only [List.length_append, List.length_singleton]; omega
      · simp
    try simp only [bsl] at hc77
    refine wp_exit ?_
    refine wp_seq ?_
    refine wp_seq ?_
    refine wp_region_lit ?_
    refine s_val rfl rfl (v_move rfl hs13) ?_
    refine s_val rfl rfl (v_assign rfl rfl) ?_
    refine wpList_nil ?_
    refine wp_block ?_
    have hsM : s = x - i - (y - j) := by omega
    subst hsM
    refine w_loop (fun k f w1 => ∃ (s : Nat) (z : Value) (S : List Ch) (rs : List (List Value)), k + s = y - j - (x - i) ∧ f 0 = z ∧ f 1 = ps ∧ f 6 = .pointer (some ⟨b6, 0, none⟩) ∧ f 7 = .pointer (some ⟨b7, 0, none⟩) ∧ f 31 = .slice (some ⟨g, 0, none⟩) PP.length c31 ∧ f 32 = .int .i64 (PP.length : Nat) ∧ f 33 = .int .i64 (t : Nat) ∧ f 9 = .int .i64 (i : Nat) ∧ f 10 = .int .i64 (j : Nat) ∧ f 12 = .pointer (some ⟨b12, 0, none⟩) ∧ f 13 = .int .i64 ((x - i : Nat) : Int) ∧ f 14 = .int .i64 ((y - j : Nat) : Int) ∧ f 17 = .int .i64 ((x - i + s : Nat) : Int) ∧ Sho n ((lstC (btw E d) p a.list b.list (PP.take t) 0 0) ++ gp1 (btw E d) p a.list b.list i j M ++ gp2 p a.list i j M (x - i - (y - j)) ++ gp3 p b.list j M s) S ∧ LpC wb wB ((b7, .cells (vrow b.sc bbs (.slice a2 b.list.length c2) bfs).toArray 33) :: (b6, .cells (vrow a.sc abs (.slice a1 a.list.length c1) afs).toArray 33) :: L) (⟨35, 29, v, n, cs⟩ :: R) ((b12, .cells ([.int .i64 (x : Int), .int .i64 (y : Int)] : List Value).toArray 43) :: ((b7, .cells (vrow b.sc bbs (.slice a2 b.list.length c2) bfs).toArray 33) :: (b6, .cells (vrow a.sc abs (.slice a1 a.list.length c1) afs).toArray 33) :: L)) R n cs S z rs w1) (y - j - (x - i)) ?_ ?_
    · skip
      exact ⟨0, z, S, rs, by omega, hs0, hs1, hs6, hs7, hs31, hs32, hs33, hs9, hs10, hs12, hs13, hs14, rfl, hsh.cast (by rw [gp3_zero, List.append_nil]), LpC.of rfl rfl cx hz hcf⟩
    intro gk16 f w hJ
    obtain ⟨s, z, S, rs, hks, hs0, hs1, hs6, hs7, hs31, hs32, hs33, hs9, hs10, hs12, hs13, hs14, hs17, hsh, cx, hz, hcf⟩ := hJ
    refine wp_seq ?_
    refine wp_seq ?_
    refine wp_region_lit ?_
    refine s_val rfl rfl (v_move rfl hs17) ?_
    refine s_val rfl rfl (v_move rfl hs14) ?_
    refine s_val rfl rfl (v_cmp rfl rfl rfl rfl) ?_
    refine wpList_nil ?_
    refine c_split rfl (fun hc101 => ?_) (fun hc101 => ?_)
    · skip
      try simp only [bsl] at hc101
      have hsM : s < y - j - (x - i) := by omega
      have hMx : M = x - i := by omega
      have hO28 := hfa2' (by omega)
      obtain rfl := hO28
      have hF2 := hsl2.inA (by omega)
      have hO29 := lst_at hz hreps2 (i := j + M + s) (by omega) hF2
      obtain ⟨r2, hr2, hv2⟩ := hO29
      replace hF2 := hz.up _ hF2
      have hge2 := getD_at (l := b.list) (i := j + M + s) (by omega)
      have hSl := hsh.1
      simp only [List.length_append, gp2_len, gp3_len] at hSl
      have hh := hz.self
      refine wp_skip ?_
      refine wp_seq ?_
      refine wp_block ?_
      refine w_ordK cx (cx.pick2 1 2 rfl rfl rfl) hh.kp mixed [(0, 104), (1, 105), (2, 106), (3, 107), (4, 108), (7, 111), (8, 112), (9, 113), (10, 114), (11, 115), (12, 116), (13, 117)] #[true, true, true, true, true, false, false, true, true, true, true, true, true, true, false, false, false, false, false] (by kernel_rfl) (by kernel_rfl) (by kernel_rfl) (by kernel_rfl) ?_
      refine pu_one rfl (wnt_none rfl) (fun w hS => by obtain ⟨cx, hkS⟩ := hS; exact v_move rfl hs0) ?_
      refine pu_one rfl (wnt_none rfl) (fun w hS => by obtain ⟨cx, hkS⟩ := hS; exact v_move rfl hs1) ?_
      refine pu_one rfl (wnt_none rfl) (fun w hS => by obtain ⟨cx, hkS⟩ := hS; exact v_move rfl hs10) ?_
      refine pu_one rfl (wnt_none rfl) (fun w hS => by obtain ⟨cx, hkS⟩ := hS; exact v_move rfl hs17) ?_
      refine pu_one rfl (wnt_none rfl) (fun w hS => by obtain ⟨cx, hkS⟩ := hS; exact v_addQ rfl rfl rfl (r := ((j + M + s : Nat) : Int)) (by omega) (by omega) (by omega)) ?_
      refine pu_one rfl (wnt_none rfl) (fun w hS => by obtain ⟨cx, hkS⟩ := hS; exact v_fa fa33_6 rfl hs7) ?_
      refine pu_one rfl (wnt_none rfl) (fun w hS => by obtain ⟨cx, hkS⟩ := hS; exact v_load1 rfl rfl Try.underlying30 rfl (cx.cell 0 rfl rfl)) ?_
      refine pu_one rfl (wnt_none rfl) (fun w hS => by obtain ⟨cx, hkS⟩ := hS; exact v_move rfl hs10) ?_
      refine pu_one rfl (wnt_none rfl) (fun w hS => by obtain ⟨cx, hkS⟩ := hS; exact v_move rfl hs17) ?_
      refine pu_one rfl (wnt_none rfl) (fun w hS => by obtain ⟨cx, hkS⟩ := hS; exact v_addQ rfl rfl rfl (r := ((j + M + s : Nat) : Int)) (by omega) (by omega) (by omega)) ?_
      refine pu_one rfl (wnt_none rfl) (fun w hS => by obtain ⟨cx, hkS⟩ := hS; exact v_ia Try.underlying30 sz33 rfl rfl rfl (by omega) (by omega)) ?_
      refine pu_one rfl (wnt_none rfl) (fun w hS => by obtain ⟨cx, hkS⟩ := hS; exact v_load rfl rfl Try.underlying33 rfl sz33 (hr2.keep (hkS _ hF2)) hv2.len) ?_
      refine pu_nil ?_; intro w cx hwD18 hkS18
      replace hh := hh.trans (Fz.belC cx hwD18)
      replace hv2 := (Fz.belC cx hwD18).rep hv2
      refine x_one (i := 5) (by kernel_rfl) rfl ?_
      refine s_fn cx (c83 (j + M + s) _) Try.func83 rfl rfl rfl rfl rfl rfl ?_; intro q109 w cx hw109 hp109
      subst hp109
      replace hh := hh.trans (Fz.belC cx hw109)
      replace hv2 := (Fz.belC cx hw109).rep hv2
      try replace hr118 := (Fz.belC cx hw109).rep hr118
      refine x_next ⟨.inl ⟨cx.pick2 1 2 rfl rfl rfl, hh.kp⟩, ?_⟩
      refine x_one (i := 6) (by kernel_rfl) rfl ?_
      have cx110 := cx
      refine s_fn cx (c81 (idxS (j + M + s)) _ p _ _ F.lt ((hz.trans hh).pth hpp) (by omega)) Try.func81 rfl rfl rfl rfl rfl rfl ?_; intro q110 w cx hw110 hp110
      replace hp110 := hp110.fr cx110 hw110.size
      replace hh := hh.trans (Fz.belC cx hw110)
      replace hv2 := (Fz.belC cx hw110).rep hv2
      try replace hr118 := (Fz.belC cx hw110).rep hr118
      refine x_next ⟨.inl ⟨cx.pick2 1 2 rfl rfl rfl, hh.kp⟩, ?_⟩
      refine x_one (i := 14) (by kernel_rfl) rfl ?_
      have cx118 := cx
      refine s_fn cx (c60 48 (b.list[j + M + s]) _ _ (deep_mono _ _ _ (deep_of_okd _ _ (hob.2.2.1 _ (List.getElem_mem _))) (by omega)) (by omega) hv2.val (hfb1.elem (List.getElem_mem _))) Try.func60 rfl rfl rfl rfl rfl rfl ?_; intro q118 w cx hw118 hp118
      have hO30 := Made.fr hp118 cx118 hw118
      obtain ⟨cb118, cl118, cf118, rfl, hr118⟩ := hO30
      replace hh := hh.trans (Fz.belC cx hw118)
      replace hv2 := (Fz.belC cx hw118).rep hv2
      try replace hp110 := (Fz.belC cx hw118).pth hp110
      refine x_next ⟨.inl ⟨cx.pick2 1 2 rfl rfl rfl, hh.kp⟩, ?_⟩
      refine x_one (i := 15) (by kernel_rfl) rfl ?_
      have hO31 := hp110.sl
      obtain ⟨pa, pc, rfl⟩ := hO31
      refine s_val rfl rfl (v_build (bd35a _ _ _ _ _ _ _) rfl rfl) ?_
      refine x_next ⟨.inl ⟨cx.pick2 1 2 rfl rfl rfl, hh.kp⟩, ?_⟩
      refine x_one (i := 16) (by kernel_rfl) rfl ?_
      refine s_bsl1 cx Try.underlying22 sz35 z35 rfl rfl rfl rfl rfl rfl rfl rfl ?_; intro b120 w cx hb120 hw120
      have hr120 : RowAt w b120 0 (.int .i64 2 :: .slice pa (p ++ [idxS (j + M + s)]).length pc :: .int .i64 0 :: (vrow (zk 0) (.slice none 0 0) (.slice none 0 0) (.slice none 0 0) ++ vrow b.list[j + M + s].sc cb118 cl118 cf118)) := cx.row 0 rfl
      replace cx := cx.tl
      replace hh := hh.trans (Fz.belC cx hw120)
      replace hr118 := (Fz.belC cx hw120).rep hr118
      replace hp110 := (Fz.belC cx hw120).pth hp110
      refine x_next ⟨.inl ⟨cx.pick2 1 2 rfl rfl rfl, hh.kp⟩, ?_⟩
      refine x_one (i := 17) (by kernel_rfl) rfl ?_
      have hcn : chA (F w _ _) w (⟨2, p ++ [idxS (j + M + s)], 0, nulV, b.list[j + M + s]⟩ : Ch) (.int .i64 2 :: .slice pa (p ++ [idxS (j + M + s)]).length pc :: .int .i64 0 :: (vrow (zk 0) (.slice none 0 0) (.slice none 0 0) (.slice none 0 0) ++ vrow b.list[j + M + s].sc cb118 cl118 cf118)) := ⟨_, _, _, rfl, hp110, rep_nul, hr118⟩
      refine s_appendG (m := 1) cx ei35 Try.underlying22 rfl rfl rfl rfl rfl hr120 rfl (chA.one _ _ hcn) (by omega) ?_; intro v121 w cx hgr121 hnw121
      replace hh := hh.trans (Fz.appC cx hgr121 hnw121)
      replace hcn := (Fz.appC cx hgr121 hnw121).ch1 hcn
      refine x_next ⟨.inr (by kernel_rfl), ?_⟩
      refine x_one (i := 18) (by kernel_rfl) rfl ?_
      refine s_val rfl rfl (v_assign rfl rfl) ?_
      refine x_next ⟨.inr (by kernel_rfl), ?_⟩
      refine x_done (by kernel_rfl) ?_
      refine wp_region_lit ?_
      refine s_val rfl rfl (v_move rfl hs17) ?_
      refine s_val rfl rfl (v_addQ rfl rfl rfl (r := ((x - i + (s + 1) : Nat) : Int)) (by omega) (by omega) (by omega)) ?_
      refine s_val rfl rfl (v_assign rfl rfl) ?_
      refine wpList_nil ?_
      refine ⟨gk16 - 1, _, by omega, rfl, s + 1, v121, S ++ [⟨2, p ++ [idxS (j + M + s)], 0, nulV, b.list[j + M + s]⟩], rs ++ [_], by omega, rfl, hs1, hs6, hs7, hs31, hs32, hs33, hs9, hs10, hs12, hs13, hs14, rfl, (hsh.snoc _).cast (by rw [gp3_succ, hge2, List.append_assoc]), LpC.of ?_ ?_ cx (hz.trans hh) (Rws.append (hh.chs hcf) ⟨hcn, trivial⟩)⟩
      · simp only [List.length_append, List.length_singleton]; omega
      · simp
    try simp only [bsl] at hc101
    refine wp_exit ?_
    refine w_still cx mixed (by kernel_rfl) ?_; intro w cx hwD19
    refine t_val rfl rfl (v_iaR (r := 0) Try.underlying43 sz3 rfl hs12 rfl (by omega) (by omega) rfl) ?_
    refine t_val rfl rfl (v_load1 rfl rfl Try.underlying3 rfl (cx.cell 0 rfl rfl)) ?_
    refine t_val rfl rfl (v_addQ rfl rfl rfl (r := ((x + 1 : Nat) : Int)) (by omega) (by omega) (by omega)) ?_
    refine t_val rfl rfl (v_iaR (r := 1) Try.underlying43 sz3 rfl hs12 rfl (by omega) (by omega) rfl) ?_
    refine t_val rfl rfl (v_load1 rfl rfl Try.underlying3 rfl (cx.cell 0 rfl rfl)) ?_
    refine t_val rfl rfl (v_addQ rfl rfl rfl (r := ((y + 1 : Nat) : Int)) (by omega) (by omega) (by omega)) ?_
    refine t_val rfl rfl (v_assign rfl rfl) ?_
    refine t_val rfl rfl (v_assign rfl rfl) ?_
    refine t_nil ?_
    refine wp_region_lit ?_
    refine s_val rfl rfl (v_addQ rfl hs33 rfl (r := ((t + 1 : Nat) : Int)) (by omega) (by omega) (by omega)) ?_
    refine s_val rfl rfl (v_move rfl rfl) ?_
    refine wpList_nil ?_
    refine ⟨gk3 - 1, _, by omega, rfl, t + 1, z, S, rs, by omega, hs0, hs1, hs6, hs7, hs31, hs32, rfl, by rw [aft_take htl, hxy]; rfl, by rw [aft_take htl, hxy]; rfl, hsh.cast ?_, LpC.of rfl rfl cx.tl ((hz.trans (Fz.belC cx hwD19)).trans Fz.tl) (Fz.tl.chs ((Fz.belC cx hwD19).chs hcf))⟩
    rw [hlt, ← List.append_assoc, ← List.append_assoc, show s = y - j - (x - i) by omega]
  try simp only [bsl] at hc34
  refine wp_exit ?_
  refine wp_seq ?_
  refine wp_region_lit ?_
  refine s_val rfl rfl (v_move rfl hs0) ?_
  refine s_val rfl rfl (v_assign rfl rfl) ?_
  refine wpList_nil ?_
  refine wp_ret ?_
  refine ret_tmp Try.results97 rfl ?_
  have htl : t = PP.length := by omega
  subst htl
  rw [List.take_of_length_le (Nat.le_refl _)] at hsh
  exact ⟨S, rs, hsh, (LpC.of rfl rfl cx (hzB.trans hz) hcf).drop 2⟩
end Go.Proofs.Ytmkihcdcgkdilaa
end
section
namespace Go.Proofs.Ytmkihcdcgkdilaa
open Go Go.Dk Go.RowKit
set_option linter.unusedSimpArgs false
set_option linter.unusedVariables false
attribute [local irreducible] Go.wpList Go.Code.wp Go.bodyPost Go.wpStill Go.wpQuiet
set_option maxRecDepth 10000 in
set_option maxHeartbeats 6400000 in
theorem c65 (E : V → V → Bool) (hE : ∀ x y, E x y = true ↔ canon x = canon y) : ∀ d, C65 E d := by
  intro d
  induction d with
  | zero => intro wb L R v n cs p ps a b ra rb w0 cx hpp hva hvb hoa; exact hoa.elim
  | succ d ih =>
  intro wb L R v n cs p ps a b ra rb w0 cx hpp hva hvb hoa hob hfa1 hfb1 hnar hpd hd48 hnb
  have hO1 := id (RepV.open hva)
  obtain ⟨abs, als, afs, rfl, _, hla, _⟩ := hO1
  have hO2 := id (RepV.open hvb)
  obtain ⟨bbs, bls, bfs, rfl, _, hlb, _⟩ := hO2
  have hO3 := hla.sl
  obtain ⟨la, lc, rfl⟩ := hO3
  have hO4 := hlb.sl
  obtain ⟨ma, mc, rfl⟩ := hO4
  have hO5 := cx.ownRow
  obtain ⟨va, vc, rfl, hvr⟩ := hO5
  refine ret_enter Try.func65 rfl Try.ntmps65 rfl ?_
  refine wp_seq ?_
  refine wp_region_lit ?_
  refine s_box cx rfl rfl rfl rfl rfl ?_; intro b6 w cx hb6 hw6
  refine s_box cx rfl rfl rfl rfl rfl ?_; intro b7 w cx hb7 hw7
  refine s_val rfl rfl (v_assign rfl rfl) ?_
  refine wpList_nil ?_
  refine wp_seq ?_
  refine wp_block ?_
  refine wp_seq ?_
  refine wp_region_lit ?_
  have hz : Fz w0 L (⟨35, 29, .slice va n vc, n, cs⟩ :: R) w ((b7, .cells (vrow b.sc bbs (.slice ma b.list.length mc) bfs).toArray 33) :: (b6, .cells (vrow a.sc abs (.slice la a.list.length lc) afs).toArray 33) :: L) (⟨35, 29, .slice va n vc, n, cs⟩ :: R) := (Fz.new hb6 hw6).trans (Fz.new hb7 hw7)
  refine s_val rfl rfl (v_load rfl rfl Try.underlying33 rfl sz33 (cx.row 1 rfl) rfl) ?_
  refine s_val rfl rfl (v_load rfl rfl Try.underlying33 rfl sz33 (cx.row 0 rfl) rfl) ?_
  refine s_fnB cx (c53 (d + 1) a b _ _ _ (by omega) hoa hob hfa1 hfb1 (hz.rep hva).val (hz.rep hvb).val) Try.func53 rfl rfl rfl rfl rfl rfl ?_; intro q12 w cx hw12 hp12
  replace hz := hz.trans (Fz.belC cx hw12)
  refine s_val rfl rfl (v_move rfl rfl) ?_
  refine s_gval rfl rfl rfl wF (fun hc => v_move rfl (by first | exact gve hc rfl | exact gve (and_l hc) rfl | exact gve (and_l (and_l hc)) rfl | rfl)) ?_
  refine s_gval rfl rfl rfl wF (fun hc => v_lenSlice rfl (gve hc rfl) Try.underlying22) ?_
  refine s_gval rfl rfl rfl wF (fun hc => v_cmp rfl (gve hc rfl) rfl rfl) ?_
  refine s_val rfl rfl (v_or rfl rfl rfl rfl) ?_
  refine s_val rfl rfl (v_assign rfl rfl) ?_
  refine wpList_nil ?_
  refine c_split rfl (fun hc9 => ?_) (fun hc9 => ?_)
  · skip
    refine wp_seq ?_
    refine wp_region_lit ?_
    refine s_val rfl rfl (v_move rfl rfl) ?_
    refine s_val rfl rfl (v_assign rfl rfl) ?_
    refine wpList_nil ?_
    refine wp_ret ?_
    refine ret_tmp Try.results65 rfl ?_
    refine ⟨[], [], ?_, (LpC.zero cx hz).drop 2⟩
    rcases Bool.or_eq_true_iff.1 hc9 with h | h
    · rw [btw_eq ((hE a b).2 (hp12.1 h))]; exact Sho.nil n
    · have h2 := of_decide_eq_true h
      exact Sho.stop (by omega)
  have hq9 := Bool.or_eq_false_iff.1 hc9
  have hnq : E a b = false := by
    rw [Bool.eq_false_iff]
    intro h
    rw [hp12.2 ((hE a b).1 h)] at hq9; cases hq9.1
  clear hq9
  refine wp_seq ?_
  refine wp_region_lit ?_
  refine s_val rfl rfl (v_fa fa33_0 rfl rfl) ?_
  refine s_val rfl rfl (v_load1 rfl rfl Try.underlying3 rfl (cx.cell 1 rfl rfl)) ?_
  refine s_val rfl rfl (v_cmp rfl rfl rfl rfl) ?_
  refine s_val rfl rfl (v_move rfl rfl) ?_
  refine s_gval rfl rfl rfl wT (fun hc => v_fa fa33_0 rfl (by first | exact gve hc rfl | exact gve (and_l hc) rfl | exact gve (and_l (and_l hc)) rfl | rfl)) ?_
  refine s_gval rfl rfl rfl wT (fun hc => v_load1 rfl (by first | exact gve hc rfl | exact gve (and_l hc) rfl | exact gve (and_l (and_l hc)) rfl | rfl) Try.underlying3 rfl (cx.cell 0 rfl rfl)) ?_
  refine s_gval rfl rfl rfl wT (fun hc => v_cmp rfl (by first | exact gve hc rfl | exact gve (and_l hc) rfl | exact gve (and_l (and_l hc)) rfl | rfl) rfl rfl) ?_
  refine s_val rfl rfl (v_and rfl rfl rfl rfl) ?_
  refine s_val rfl rfl (v_assign rfl rfl) ?_
  refine wpList_nil ?_
  refine c_split rfl (fun hc19 => ?_) (fun hc19 => ?_)
  · skip
    try simp only [bsl] at hc19
    have hkk := hc19
    refine wp_seq ?_
    refine wp_region_lit ?_
    refine s_val rfl rfl (v_move rfl rfl) ?_
    refine s_val rfl rfl (v_move rfl rfl) ?_
    refine s_val rfl rfl (v_load rfl rfl Try.underlying33 rfl sz33 (cx.row 1 rfl) rfl) ?_
    refine s_val rfl rfl (v_load rfl rfl Try.underlying33 rfl sz33 (cx.row 0 rfl) rfl) ?_
    refine s_callR rfl rfl (runs_fn Try.func96 rfl rfl rfl rfl) (c96 E d ih wb _ R _ n cs p _ a b _ _ _ cx (hz.pth hpp) (hz.rep hva) (hz.rep hvb) hoa hob hfa1 hfb1 hnar hpd hd48 (by rw [btw_map hnq hkk.1 hkk.2] at hnb; exact hnb)) ?_; intro q32 w hp32
    refine s_val rfl rfl (v_assign rfl rfl) ?_
    refine wpList_nil ?_
    refine wp_ret ?_
    refine ret_tmp Try.results65 rfl ?_
    refine BtP.cast (btw_map hnq hkk.1 hkk.2) ?_
    obtain ⟨S2, rs2, hsh2, cx, hz2, hcf2⟩ := hp32
    exact ⟨S2, rs2, hsh2, (LpC.of rfl rfl cx (hz.trans hz2) hcf2).drop 2⟩
  try simp only [bsl] at hc19
  have hnk : ¬ (a.sc.kind = 7 ∧ b.sc.kind = 7) := fun h => by
    rcases hc19 with h2 | h2
    · exact h2 h.1
    · exact h2 h.2
  refine wp_seq ?_
  refine wp_region_lit ?_
  refine s_val rfl rfl (v_fa fa33_0 rfl rfl) ?_
  refine s_val rfl rfl (v_load1 rfl rfl Try.underlying3 rfl (cx.cell 1 rfl rfl)) ?_
  refine s_val rfl rfl (v_cmp rfl rfl rfl rfl) ?_
  refine s_val rfl rfl (v_move rfl rfl) ?_
  refine s_gval rfl rfl rfl wT (fun hc => v_fa fa33_0 rfl (by first | exact gve hc rfl | exact gve (and_l hc) rfl | exact gve (and_l (and_l hc)) rfl | rfl)) ?_
  refine s_gval rfl rfl rfl wT (fun hc => v_load1 rfl (by first | exact gve hc rfl | exact gve (and_l hc) rfl | exact gve (and_l (and_l hc)) rfl | rfl) Try.underlying3 rfl (cx.cell 0 rfl rfl)) ?_
  refine s_gval rfl rfl rfl wT (fun hc => v_cmp rfl (by first | exact gve hc rfl | exact gve (and_l hc) rfl | exact gve (and_l (and_l hc)) rfl | rfl) rfl rfl) ?_
  refine s_val rfl rfl (v_and rfl rfl rfl rfl) ?_
  refine s_val rfl rfl (v_assign rfl rfl) ?_
  refine wpList_nil ?_
  refine c_split rfl (fun hc33 => ?_) (fun hc33 => ?_)
  · skip
    try simp only [bsl] at hc33
    have hll := hc33
    refine wp_seq ?_
    refine wp_region_lit ?_
    refine s_val rfl rfl (v_move rfl rfl) ?_
    refine s_val rfl rfl (v_move rfl rfl) ?_
    refine s_val rfl rfl (v_load rfl rfl Try.underlying33 rfl sz33 (cx.row 1 rfl) rfl) ?_
    refine s_val rfl rfl (v_load rfl rfl Try.underlying33 rfl sz33 (cx.row 0 rfl) rfl) ?_
    refine s_callR rfl rfl (runs_fn Try.func97 rfl rfl rfl rfl) (c97 E hE d ih wb _ R _ n cs p _ a b _ _ _ cx (hz.pth hpp) (hz.rep hva) (hz.rep hvb) hoa hob hfa1 hfb1 hnar hpd hd48 (by rw [btw_lst hnq hnk hll.1 hll.2] at hnb; exact hnb)) ?_; intro q46 w hp46
    refine s_val rfl rfl (v_assign rfl rfl) ?_
    refine wpList_nil ?_
    refine wp_ret ?_
    refine ret_tmp Try.results65 rfl ?_
    refine BtP.cast (btw_lst hnq hnk hll.1 hll.2) ?_
    obtain ⟨S2, rs2, hsh2, cx, hz2, hcf2⟩ := hp46
    exact ⟨S2, rs2, hsh2, (LpC.of rfl rfl cx (hz.trans hz2) hcf2).drop 2⟩
  try simp only [bsl] at hc33
  have hnl : ¬ (a.sc.kind = 6 ∧ b.sc.kind = 6) := fun h => by
    rcases hc33 with h2 | h2
    · exact h2 h.1
    · exact h2 h.2
  have hh := hz.self
  have hn1 : n + 1 ≤ 1048576 := by rw [btw_rep hnq hnk hnl] at hnb; exact hnb
  refine wp_skip ?_
  refine wp_seq ?_
  refine w_ord cx (cx.pick2 1 0 rfl rfl rfl) mixed [(0, 47), (1, 48), (3, 50), (5, 52)] #[true, true, false, true, false, true, false, false, false, false, false] (by kernel_rfl) (by kernel_rfl) (by kernel_rfl) (by kernel_rfl) ?_
  refine pu_one rfl (wnt_none rfl) (fun w cx => v_move rfl rfl) ?_
  refine pu_one rfl (wnt_none rfl) (fun w cx => v_move rfl rfl) ?_
  refine pu_one rfl (wnt_none rfl) (fun w cx => v_load rfl rfl Try.underlying33 rfl sz33 (cx.row 0 rfl) rfl) ?_
  refine pu_one rfl (wnt_none rfl) (fun w cx => v_load rfl rfl Try.underlying33 rfl sz33 (cx.row 1 rfl) rfl) ?_
  refine pu_nil ?_; intro w cx hwD7
  replace hh := hh.trans (Fz.belC cx hwD7)
  refine x_one (i := 2) (by kernel_rfl) rfl ?_
  have cx49 := cx
  refine s_fn cx (c84 _ p [] _ _ _ F.lt ((hz.trans hh).pth hpp) PthA.nil (by simp only [List.length_nil]; omega)) Try.func84 rfl rfl rfl rfl rfl rfl ?_; intro q49 w cx hw49 hp49
  replace hp49 := hp49.fr cx49 hw49.size
  rw [List.append_nil] at hp49
  replace hh := hh.trans (Fz.belC cx hw49)
  try replace hr51 := (Fz.belC cx hw49).rep hr51
  try replace hr53 := (Fz.belC cx hw49).rep hr53
  refine x_next ⟨.inl (cx.pick2 1 0 rfl rfl rfl), ?_⟩
  refine x_one (i := 4) (by kernel_rfl) rfl ?_
  have cx51 := cx
  refine s_fn cx (c60 48 (a) _ _ (deep_mono _ _ _ (deep_of_okd _ _ (hoa)) (by omega)) (by omega) ((hz.trans hh).rep hva).val (hfa1)) Try.func60 rfl rfl rfl rfl rfl rfl ?_; intro q51 w cx hw51 hp51
  have hO6 := Made.fr hp51 cx51 hw51
  obtain ⟨cb51, cl51, cf51, rfl, hr51⟩ := hO6
  replace hh := hh.trans (Fz.belC cx hw51)
  try replace hp49 := (Fz.belC cx hw51).pth hp49
  try replace hr53 := (Fz.belC cx hw51).rep hr53
  refine x_next ⟨.inl (cx.pick2 1 0 rfl rfl rfl), ?_⟩
  refine x_one (i := 6) (by kernel_rfl) rfl ?_
  have cx53 := cx
  refine s_fn cx (c60 48 (b) _ _ (deep_mono _ _ _ (deep_of_okd _ _ (hob)) (by omega)) (by omega) ((hz.trans hh).rep hvb).val (hfb1)) Try.func60 rfl rfl rfl rfl rfl rfl ?_; intro q53 w cx hw53 hp53
  have hO7 := Made.fr hp53 cx53 hw53
  obtain ⟨cb53, cl53, cf53, rfl, hr53⟩ := hO7
  replace hh := hh.trans (Fz.belC cx hw53)
  try replace hp49 := (Fz.belC cx hw53).pth hp49
  try replace hr51 := (Fz.belC cx hw53).rep hr51
  refine x_next ⟨.inl (cx.pick2 1 0 rfl rfl rfl), ?_⟩
  refine x_one (i := 7) (by kernel_rfl) rfl ?_
  have hO8 := hp49.sl
  obtain ⟨pa, pc, rfl⟩ := hO8
  refine s_val rfl rfl (v_build (bd35c _ _ _ _ _ _ _ _ _ _ _) rfl rfl) ?_
  refine x_next ⟨.inl (cx.pick2 1 0 rfl rfl rfl), ?_⟩
  refine x_one (i := 8) (by kernel_rfl) rfl ?_
  refine s_bsl1 cx Try.underlying22 sz35 z35 rfl rfl rfl rfl rfl rfl rfl rfl ?_; intro b55 w cx hb55 hw55
  have hr55 : RowAt w b55 0 (.int .i64 1 :: .slice pa p.length pc :: .int .i64 0 :: (vrow a.sc cb51 cl51 cf51 ++ vrow b.sc cb53 cl53 cf53)) := cx.row 0 rfl
  replace cx := cx.tl
  replace hh := hh.trans (Fz.belC cx hw55)
  replace hp49 := (Fz.belC cx hw55).pth hp49
  replace hr51 := (Fz.belC cx hw55).rep hr51
  replace hr53 := (Fz.belC cx hw55).rep hr53
  refine x_next ⟨.inl (cx.pick2 1 0 rfl rfl rfl), ?_⟩
  refine x_one (i := 9) (by kernel_rfl) rfl ?_
  have hcn : chA (F w _ _) w (⟨1, p, 0, a, b⟩ : Ch) (.int .i64 1 :: .slice pa p.length pc :: .int .i64 0 :: (vrow a.sc cb51 cl51 cf51 ++ vrow b.sc cb53 cl53 cf53)) := ⟨_, _, _, rfl, hp49, hr51, hr53⟩
  refine s_appendG (m := 1) cx ei35 Try.underlying22 rfl rfl rfl rfl rfl hr55 rfl (chA.one _ _ hcn) (by omega) ?_; intro v56 w cx hgr56 hnw56
  replace hh := hh.trans (Fz.appC cx hgr56 hnw56)
  replace hcn := (Fz.appC cx hgr56 hnw56).ch1 hcn
  refine x_next ⟨.inr (by kernel_rfl), ?_⟩
  refine x_one (i := 10) (by kernel_rfl) rfl ?_
  refine s_val rfl rfl (v_assign rfl rfl) ?_
  refine x_next ⟨.inr (by kernel_rfl), ?_⟩
  refine x_done (by kernel_rfl) ?_
  refine wp_ret ?_
  refine ret_tmp Try.results65 rfl ?_
  refine BtP.cast (btw_rep hnq hnk hnl) ?_
  exact ⟨[⟨1, p, 0, a, b⟩], [.int .i64 1 :: .slice pa p.length pc :: .int .i64 0 :: (vrow a.sc cb51 cl51 cf51 ++ vrow b.sc cb53 cl53 cf53)], Sho.refl _ _, (LpC.of (S := [⟨1, p, 0, a, b⟩]) (rs := [.int .i64 1 :: .slice pa p.length pc :: .int .i64 0 :: (vrow a.sc cb51 cl51 cf51 ++ vrow b.sc cb53 cl53 cf53)]) rfl (by simp) cx (hz.trans hh) ⟨hcn, trivial⟩).drop 2⟩
end Go.Proofs.Ytmkihcdcgkdilaa
end
section
namespace Go.Proofs.Ytmkihcdcgkdilaa
open Go Go.Dk Go.RowKit
set_option linter.unusedSimpArgs false
set_option linter.unusedVariables false
attribute [local irreducible] Go.wpList Go.Code.wp Go.bodyPost Go.wpStill Go.wpQuiet
end Go.Proofs.Ytmkihcdcgkdilaa
end
section
namespace Go.Proofs.Ytmkihcdcgkdilaa
open Go Go.Dk Go.RowKit
set_option linter.unusedSimpArgs false
set_option linter.unusedVariables false
attribute [local irreducible] Go.wpList Go.Code.wp Go.bodyPost Go.wpStill Go.wpQuiet
set_option maxRecDepth 10000 in
theorem c40 (E : V → V → Bool) (hE : ∀ x y, E x y = true ↔ canon x = canon y) (a b : V) (ra rb : List Value) (w0 : World) (hva : Val w0 a ra) (hvb : Val w0 b rb) (hoa : okd 48 a) (hob : okd 48 b) (hfa1 : Fine a) (hfb1 : Fine b) (hnar : Nar 48 a b) (hnb : (btw E 48 [] a b).length ≤ 1048576) : Fc Try.prog 40 [.agg ra.toArray, .agg rb.toArray] w0 (fun x w' => ∃ s, x = .tuple #[s, .int .i64 (MkE (btw E 48 [] a b))] ∧ Chs w' s (MkB (btw E 48 [] a b))) := by
  refine ret_enter Try.func40 rfl Try.ntmps40 rfl ?_
  have cx := Ctx.start w0
  refine wp_seq ?_
  refine wp_region_lit ?_
  refine s_box cx rfl rfl rfl rfl rfl ?_; intro b2 w cx hb2 hw2
  refine s_box cx rfl rfl rfl rfl rfl ?_; intro b3 w cx hb3 hw3
  refine s_val rfl rfl (v_assign rfl rfl) ?_
  refine s_val rfl rfl (v_assign rfl rfl) ?_
  refine wpList_nil ?_
  refine wp_seq ?_
  refine wp_region_lit ?_
  refine s_val rfl rfl (v_load rfl rfl Try.underlying33 rfl sz33 (cx.row 1 rfl) hva.len) ?_
  refine s_val rfl rfl (v_load rfl rfl Try.underlying33 rfl sz33 (cx.row 0 rfl) hvb.len) ?_
  have hz : Fz w0 [] [] w [(b3, .cells rb.toArray 33), (b2, .cells ra.toArray 33)] [] := (Fz.new hb2 hw2).trans (Fz.new hb3 hw3)
  replace hz := hz.trans (Fz.nilRow 35 29)
  replace cx := cx.nilRow 35 29
  refine s_callR rfl rfl (runs_fn Try.func65 rfl rfl rfl rfl) (c65 E hE 48 w0 _ _ (.slice none 0 0) 0 [] [] _ a b _ _ _ cx PthA.nil (hz.rep (rep0 hva)) (hz.rep (rep0 hvb)) hoa hob hfa1 hfb1 hnar (by simp) (by omega) (by omega)) ?_; intro q9 w hp9
  obtain ⟨S2, rs2, hsh2, cx, hz2, hcf2⟩ := hp9
  obtain ⟨qa, qc, rfl, _⟩ := cx.ownRow
  refine s_val rfl rfl (v_assign rfl rfl) ?_
  refine wpList_nil ?_
  refine wp_seq ?_
  refine wp_seq ?_
  refine wp_region_lit ?_
  refine s_val rfl rfl (v_move rfl rfl) ?_
  refine s_val rfl rfl (v_lenSlice rfl rfl Try.underlying22) ?_
  refine s_val rfl rfl (v_cmp rfl rfl rfl rfl) ?_
  refine wpList_nil ?_
  refine c_split rfl (fun hc12 => ?_) (fun hc12 => ?_)
  · skip
    have hc13 := of_decide_eq_true hc12
    refine wp_seq ?_
    refine wp_region_lit ?_
    refine s_val rfl rfl (v_assign rfl rfl) ?_
    refine s_val rfl rfl (v_assign rfl rfl) ?_
    refine wpList_nil ?_
    refine wp_ret ?_
    refine ret_tmp2 Try.results40 rfl rfl ?_
    have hm : 4096 < (btw E 48 [] a b).length := sho_many hsh2 (by omega)
    have hE1 : MkE (btw E 48 [] a b) = 10 := if_pos hm
    have hB1 : MkB (btw E 48 [] a b) = [] := if_pos hm
    exact ⟨cx.ext, .slice none 0 0, by rw [hE1]; rfl, by rw [hB1]; exact chs_nil⟩
  have hc13 := of_decide_eq_false hc12
  refine wp_skip ?_
  refine wp_seq ?_
  refine wp_region_lit ?_
  refine s_val rfl rfl (v_move rfl rfl) ?_
  refine s_val rfl rfl (v_assign rfl rfl) ?_
  refine s_val rfl rfl (v_assign rfl rfl) ?_
  refine wpList_nil ?_
  refine wp_ret ?_
  refine ret_tmp2 Try.results40 rfl rfl ?_
  have hm : ¬ 4096 < (btw E 48 [] a b).length := fun h => by
    have := sho_few hsh2 (by omega)
    rw [← this] at h; omega
  have hE1 : MkE (btw E 48 [] a b) = 0 := if_neg hm
  have hB1 : MkB (btw E 48 [] a b) = btw E 48 [] a b := if_neg hm
  refine ⟨cx.ext, .slice qa (0 + S2.length) qc, by rw [hE1]; rfl, ?_⟩
  rw [hB1]
  rw [← sho_few hsh2 (by omega)]
  exact chs_of cx (by omega) (by simp) hcf2
end Go.Proofs.Ytmkihcdcgkdilaa
end
section
namespace Go.Proofs.Ytmkihcdcgkdilaa
open Go Go.Dk Go.RowKit
set_option linter.unusedSimpArgs false
set_option linter.unusedVariables false
attribute [local irreducible] Go.wpList Go.Code.wp Go.bodyPost Go.wpStill Go.wpQuiet
set_option maxRecDepth 10000 in
set_option maxHeartbeats 6400000 in
theorem c58 (E : V → V → Bool) (hE : ∀ x y, E x y = true ↔ canon x = canon y) : ∀ (d : Nat) (wb : World) (L : List (Nat × Obj)) (R : List Row) (v : Value) (n : Nat) (cs : List Value) (p : List Stp) (ps : Value) (a b : V) (ra rb : List Value) (w0 : World), Cxr wb w0 L (⟨24, 1, v, n, cs⟩ :: R) → PthA (D0 w0 v) w0 ps p → RepV (D0 w0 v) w0 a ra → RepV (D0 w0 v) w0 b rb → okd d a → okd d b → Fine a → Fine b → p.length + d ≤ 100 → d ≤ 48 → n + (dfr E d p a b).length ≤ 1048576 →
    Ret Try.prog 58 [v, ps, .agg ra.toArray, .agg rb.toArray] w0 (fun x w' => ∃ cs' : List Value, Cxr wb w' L (⟨24, 1, x, n + (dfr E d p a b).length, cs ++ cs'⟩ :: R) ∧ Kp (D0 w0 v) w0 w' ∧ PthsC (fun b => Fr w0 w' b ∧ x.ownBlock ≠ some b) w' (dfr E d p a b) cs' ∧ Nx w0 v x) := by
  intro d
  induction d with
  | zero => intro wb L R v n cs p ps a b ra rb w0 cx hpp hva hvb hoa; exact hoa.elim
  | succ d ih =>
  intro wb L R v n cs p ps a b ra rb w0 cx hpp hva hvb hoa hob hfa1 hfb hpd hd48 hnb
  obtain ⟨abs, als, afs, rfl, _, hal0, haf0⟩ := id (RepV.open hva)
  obtain ⟨bbs, bls, bfs, rfl, _, hbl0, hbf0⟩ := id (RepV.open hvb)
  obtain ⟨lb, lo, hlsl, hlreps⟩ := hal0
  obtain ⟨la, lc, rfl, hla⟩ := hlsl.form
  have hlget := fun i x h => RepLs.get a.list lo i x hlreps h
  obtain ⟨mb, mo, hmsl, hmreps⟩ := hbl0
  obtain ⟨ma, mc, rfl, hma⟩ := hmsl.form
  have hmget := fun i x h => RepLs.get b.list mo i x hmreps h
  obtain ⟨fb, fo, hfsl, hfreps⟩ := haf0
  obtain ⟨fa, fc, rfl, hfa⟩ := hfsl.form
  have hfget := fun i kv h => RepFs.get a.fields fo i kv hfreps h
  obtain ⟨gb, go, hgsl, hgreps⟩ := hbf0
  obtain ⟨ga, gc, rfl, hga⟩ := hgsl.form
  have hall := hfa1.self.2.2.2.1
  have hafl := hfa1.self.2.2.2.2
  refine ret_enter Try.func58 rfl Try.ntmps58 rfl ?_
  refine wp_seq ?_
  refine wp_region_lit ?_
  refine s_box cx rfl rfl rfl rfl rfl ?_; intro b6 w cx hb6 hw6
  refine s_box cx rfl rfl rfl rfl rfl ?_; intro b7 w cx hb7 hw7
  refine s_val rfl rfl (v_assign rfl rfl) ?_
  refine wpList_nil ?_
  refine wp_seq ?_
  refine wp_seq ?_
  refine wp_region_lit ?_
  have hK := ((Kp.d0 w0 v).below hw6).below hw7
  refine s_val rfl rfl (v_load rfl rfl Try.underlying33 rfl sz33 (cx.row 1 rfl) rfl) ?_
  refine s_val rfl rfl (v_load rfl rfl Try.underlying33 rfl sz33 (cx.row 0 rfl) rfl) ?_
  refine s_fnB cx (c53 (d + 1) a b _ _ _ (by omega) hoa hob hfa1 hfb (RepV.mono (fun b hb => Nat.lt_of_lt_of_le hb.1 hK.sz) hK.kp _ _ hva) (RepV.mono (fun b hb => Nat.lt_of_lt_of_le hb.1 hK.sz) hK.kp _ _ hvb)) Try.func53 rfl rfl rfl rfl rfl rfl ?_; intro q21 w cx hw21 hp21
  replace hK := hK.below hw21
  refine wpList_nil ?_
  refine c_split rfl (fun hc21 => ?_) (fun hc21 => ?_)
  · skip
    refine wp_seq ?_
    refine wp_region_lit ?_
    refine s_val rfl rfl (v_move rfl rfl) ?_
    refine s_val rfl rfl (v_assign rfl rfl) ?_
    refine wpList_nil ?_
    refine wp_ret ?_
    refine ret_tmp Try.results58 rfl ?_
    have hd0 : dfr E (d + 1) p a b = [] := by simp only [dfr]; rw [if_pos ((hE a b).2 (hp21.1 hc21))]
    rw [hd0]
    exact ⟨[], (by rw [List.append_nil]; exact cx.drop 2), hK, trivial, Nx.self _ _⟩
  have hne : ¬ canon a = canon b := fun h => by rw [hp21.2 h] at hc21; cases hc21
  refine wp_skip ?_
  refine wp_seq ?_
  refine wp_region_lit ?_
  refine s_val rfl rfl (v_fa fa33_0 rfl rfl) ?_
  refine s_val rfl rfl (v_load1 rfl rfl Try.underlying3 rfl (cx.cell 1 rfl rfl)) ?_
  refine s_val rfl rfl (v_cmp rfl rfl rfl rfl) ?_
  refine s_val rfl rfl (v_move rfl rfl) ?_
  refine s_gval rfl rfl rfl wT (fun hc => v_fa fa33_0 rfl (by first | exact gve hc rfl | exact gve (and_l hc) rfl | exact gve (and_l (and_l hc)) rfl | rfl)) ?_
  refine s_gval rfl rfl rfl wT (fun hc => v_load1 rfl (by first | exact gve hc rfl | exact gve (and_l hc) rfl | exact gve (and_l (and_l hc)) rfl | rfl) Try.underlying3 rfl (cx.cell 0 rfl rfl)) ?_
  refine s_gval rfl rfl rfl wT (fun hc => v_cmp rfl (by first | exact gve hc rfl | exact gve (and_l hc) rfl | exact gve (and_l (and_l hc)) rfl | rfl) rfl rfl) ?_
  refine s_val rfl rfl (v_and rfl rfl rfl rfl) ?_
  refine s_val rfl rfl (v_move rfl rfl) ?_
  refine s_gval rfl rfl rfl wT (fun hc => v_fa fa33_7 rfl (by first | exact gve hc rfl | exact gve (and_l hc) rfl | exact gve (and_l (and_l hc)) rfl | rfl)) ?_
  refine s_gval rfl rfl rfl wT (fun hc => v_load1 rfl (by first | exact gve hc rfl | exact gve (and_l hc) rfl | exact gve (and_l (and_l hc)) rfl | rfl) Try.underlying31 rfl (cx.cell 1 rfl rfl)) ?_
  refine s_gval rfl rfl rfl wT (fun hc => v_lenSlice rfl (by first | exact gve hc rfl | exact gve (and_l hc) rfl | exact gve (and_l (and_l hc)) rfl | rfl) Try.underlying31) ?_
  refine s_gval rfl rfl rfl wT (fun hc => v_fa fa33_7 rfl (by first | exact gve hc rfl | exact gve (and_l hc) rfl | exact gve (and_l (and_l hc)) rfl | rfl)) ?_
  refine s_gval rfl rfl rfl wT (fun hc => v_load1 rfl (by first | exact gve hc rfl | exact gve (and_l hc) rfl | exact gve (and_l (and_l hc)) rfl | rfl) Try.underlying31 rfl (cx.cell 0 rfl rfl)) ?_
  refine s_gval rfl rfl rfl wT (fun hc => v_lenSlice rfl (by first | exact gve hc rfl | exact gve (and_l hc) rfl | exact gve (and_l (and_l hc)) rfl | rfl) Try.underlying31) ?_
  refine s_gval rfl rfl rfl wT (fun hc => v_cmp rfl (by first | exact gve hc rfl | exact gve (and_l hc) rfl | exact gve (and_l (and_l hc)) rfl | rfl) (by first | exact gve hc rfl | exact gve (and_l hc) rfl | exact gve (and_l (and_l hc)) rfl | rfl) rfl) ?_
  refine s_val rfl rfl (v_and rfl rfl rfl rfl) ?_
  refine s_val rfl rfl (v_assign rfl rfl) ?_
  refine wpList_nil ?_
  refine wp_seq ?_
  refine wp_seq ?_
  refine wp_region_lit ?_
  refine s_val rfl rfl (v_fa fa33_7 rfl rfl) ?_
  refine s_val rfl rfl (v_load1 rfl rfl Try.underlying31 rfl (cx.cell 1 rfl rfl)) ?_
  refine s_val rfl rfl (v_lenSlice rfl rfl Try.underlying31) ?_
  refine s_val rfl rfl (v_move rfl rfl) ?_
  refine wpList_nil ?_
  refine wp_block ?_
  refine w_loop (fun k f w1 => ∃ i : Nat, k + i = a.fields.length ∧ f 0 = v ∧ f 1 = ps ∧ f 6 = .pointer (some ⟨b6, 0, none⟩) ∧ f 7 = .pointer (some ⟨b7, 0, none⟩) ∧ f 9 = .bool (a.sc.kind == 7 && b.sc.kind == 7 && (a.fields.length : Int) == (b.fields.length : Int) && (a.fields.take i).all (fun kv => (hasF kv.1 b.fields).isSome)) ∧ f 41 = .slice fa a.fields.length fc ∧ f 42 = .int .i64 a.fields.length ∧ f 43 = .int .i64 i ∧ Cxr wb w1 ((b7, .cells (vrow b.sc bbs (.slice ma b.list.length mc) (.slice ga b.fields.length gc)).toArray 33) :: (b6, .cells (vrow a.sc abs (.slice la a.list.length lc) (.slice fa a.fields.length fc)).toArray 33) :: L) (⟨24, 1, v, n, cs⟩ :: R) ∧ Kp (D0 w0 v) w0 w1) (a.fields.length) ?_ ?_
  · skip
    exact ⟨0, by omega, rfl, rfl, rfl, rfl, by show Value.bool _ = _; simp, rfl, rfl, rfl, cx, hK⟩
  intro gk5 f w hJ
  obtain ⟨i, hki, hs0, hs1, hs6, hs7, hs9, hs41, hs42, hs43, cx, hK⟩ := hJ
  refine wp_seq ?_
  refine wp_region_lit ?_
  refine s_val rfl rfl (v_cmp rfl hs43 hs42 rfl) ?_
  refine wpList_nil ?_
  refine wp_seq ?_
  refine c_split rfl (fun hc44 => ?_) (fun hc44 => ?_)
  · skip
    try simp only [bsl] at hc44
    obtain rfl := hfa (by omega)
    obtain ⟨r, hr, hrv⟩ := hfget i a.fields[i] (List.getElem?_eq_getElem (by omega))
    obtain ⟨ebs, els, efs, rfl, _⟩ := hrv.open
    have hrA := hfsl.inA (by omega)
    have hQ := Kp.d0 w v
    have hNx := Nx.self w0 v
    have hlz := hrv.len
    refine wp_skip ?_
    refine wp_seq ?_
    refine wp_block ?_
    refine wp_seq ?_
    refine wp_region_lit ?_
    refine s_val rfl rfl (v_ia Try.underlying31 sz77 rfl hs41 hs43 (by omega) (by omega)) ?_
    refine s_val rfl rfl (v_load rfl rfl Try.underlying77 rfl sz77 (hr.keep (hK.kp _ hrA)) rfl) ?_
    refine s_alloc cx z77 rfl rfl rfl ?_; intro b11 w cx hb11 hw11
    refine s_storeAllG cx 0 rfl rfl rfl rfl rfl rfl sz77 rfl (by exact hrv.one) ?_; intro w cx hg11
    replace hQ := (hQ.below hw11).later hg11 (Nat.le_of_eq hb11)
    refine wpList_nil ?_
    refine wp_seq ?_
    refine wp_region_lit ?_
    refine s_val rfl rfl (v_load rfl hs7 Try.underlying33 rfl sz33 (cx.row 1 rfl) rfl) ?_
    refine s_val rfl rfl (v_fa fa77_0 rfl rfl) ?_
    refine s_val rfl rfl (v_load1 rfl rfl Try.underlying9 rfl (cx.cell 0 rfl rfl)) ?_
    have cx51b := cx
    refine s_fn cx (c80g 48 b _ a.fields[i].1 _ (deep_mono _ _ _ (deep_of_okd _ _ hob) (by omega)) (by omega) (RepV.mono (fun b hb => Nat.lt_of_lt_of_le hb.1 (hK.d0step hQ hNx).sz) (hK.d0step hQ hNx).kp _ _ hvb) hfb (by
      by_cases h7 : b.sc.kind = 7
      · exact .inl h7
      · exact .inr (List.eq_nil_of_length_eq_zero (hob.1.fields h7)))) Try.func80 rfl rfl rfl rfl rfl rfl ?_; intro q51 w cx hw51 hp51
    obtain ⟨l51, bb51, rfl, hl51, ho51, hm51⟩ := hp51
    replace hQ := hQ.below hw51
    have hbb : bb51 = (hasF a.fields[i].1 b.fields).isSome := by
      cases hh : hasF a.fields[i].1 b.fields with
      | none => rw [hh] at hm51; exact hm51
      | some u => rw [hh] at hm51; exact hm51.1
    refine s_val rfl rfl (v_move rfl rfl) ?_
    refine s_val rfl rfl (v_extract rfl rfl rfl) ?_
    refine s_val rfl rfl (v_extract rfl rfl rfl) ?_
    refine s_alloc cx z33 rfl rfl rfl ?_; intro b12 w cx hb12 hw12
    have hl12 := Nat.le_trans hQ.sz (Nat.le_of_eq hb12)
    refine s_storeAllG cx 0 rfl rfl rfl rfl rfl rfl (by rw [hl51]; exact sz33) (by rw [hl51]; rfl) ho51 ?_; intro w cx hg12
    replace hQ := (hQ.below hw12).later hg12 hl12
    refine s_val rfl rfl (v_assign rfl rfl) ?_
    refine wpList_nil ?_
    refine wp_region_lit ?_
    refine s_val rfl rfl (v_move rfl hs9) ?_
    refine s_val rfl rfl (v_move rfl rfl) ?_
    refine s_gval rfl rfl rfl wT (fun hc => v_move rfl (by first | exact gve hc rfl | exact gve (and_l hc) rfl | exact gve (and_l (and_l hc)) rfl | rfl)) ?_
    refine s_val rfl rfl (v_and rfl rfl rfl rfl) ?_
    refine s_val rfl rfl (v_assign rfl rfl) ?_
    refine wpList_nil ?_
    refine wp_region_lit ?_
    refine s_val rfl rfl (v_add rfl hs43 rfl (by omega) (by omega)) ?_
    refine s_val rfl rfl (v_move rfl rfl) ?_
    refine wpList_nil ?_
    refine ⟨gk5 - 1, _, by omega, rfl, i + 1, by omega, hs0, hs1, hs6, hs7, ?_, hs41, hs42, rfl, cx.drop 2, hK.d0step hQ hNx⟩
    rw [List.take_succ_eq_append_getElem (by omega), List.all_append]
    show Value.bool _ = _
    simp [hbb, Bool.and_assoc]
  try simp only [bsl] at hc44
  refine wp_exit ?_
  refine wp_seq ?_
  refine wp_seq ?_
  refine wp_region_lit ?_
  refine s_val rfl rfl (v_move rfl hs9) ?_
  refine wpList_nil ?_
  refine c_split rfl (fun hc59 => ?_) (fun hc59 => ?_)
  · skip
    have hi : i = a.fields.length := by omega
    have hal : alike a b = true := by
      unfold alike
      rw [hi, List.take_of_length_le (Nat.le_refl _)] at hc59
      exact hc59
    have hdf : dfr E (d + 1) p a b = a.fields.flatMap (fun kv : ByteArray × V => dfr E d (p ++ [keyS kv.1]) kv.2 ((hasF kv.1 b.fields).getD nulV)) := by
      simp only [dfr]; rw [if_neg (fun h => hne ((hE a b).1 h)), if_pos hal]
    rw [hdf] at hnb
    refine wp_seq ?_
    refine wp_seq ?_
    refine wp_region_lit ?_
    refine s_val rfl rfl (v_fa fa33_7 rfl hs6) ?_
    refine s_val rfl rfl (v_load1 rfl rfl Try.underlying31 rfl (cx.cell 1 rfl rfl)) ?_
    refine s_val rfl rfl (v_lenSlice rfl rfl Try.underlying31) ?_
    refine s_val rfl rfl (v_move rfl rfl) ?_
    refine wpList_nil ?_
    refine wp_block ?_
    refine w_loop (fun k f w1 => ∃ (i : Nat) (x : Value) (cs' : List Value), k + i = a.fields.length ∧ f 0 = x ∧ f 1 = ps ∧ f 6 = .pointer (some ⟨b6, 0, none⟩) ∧ f 7 = .pointer (some ⟨b7, 0, none⟩) ∧ f 61 = .slice fa a.fields.length fc ∧ f 62 = .int .i64 a.fields.length ∧ f 63 = .int .i64 i ∧ Cxr wb w1 ((b7, .cells (vrow b.sc bbs (.slice ma b.list.length mc) (.slice ga b.fields.length gc)).toArray 33) :: (b6, .cells (vrow a.sc abs (.slice la a.list.length lc) (.slice fa a.fields.length fc)).toArray 33) :: L) (⟨24, 1, x, n + ((a.fields.take i).flatMap (fun kv : ByteArray × V => dfr E d (p ++ [keyS kv.1]) kv.2 ((hasF kv.1 b.fields).getD nulV))).length, cs ++ cs'⟩ :: R) ∧ Kp (D0 w0 v) w0 w1 ∧ Nx w0 v x ∧ PthsC (fun b => Fr w0 w1 b ∧ x.ownBlock ≠ some b) w1 ((a.fields.take i).flatMap (fun kv : ByteArray × V => dfr E d (p ++ [keyS kv.1]) kv.2 ((hasF kv.1 b.fields).getD nulV))) cs') (a.fields.length) ?_ ?_
    · skip
      exact ⟨0, v, [], by omega, hs0, hs1, hs6, hs7, rfl, rfl, rfl, by simpa using cx, hK, Nx.self _ _, trivial⟩
    intro gk12 f w hJ
    obtain ⟨i, x, cs', hki, hs0, hs1, hs6, hs7, hs61, hs62, hs63, cx, hK, hNx, hcs⟩ := hJ
    refine wp_seq ?_
    refine wp_region_lit ?_
    refine s_val rfl rfl (v_cmp rfl hs63 hs62 rfl) ?_
    refine wpList_nil ?_
    refine wp_seq ?_
    refine c_split rfl (fun hc64 => ?_) (fun hc64 => ?_)
    · skip
      try simp only [bsl] at hc64
      obtain rfl := hfa (by omega)
      obtain ⟨r, hr, hrv⟩ := hfget i a.fields[i] (List.getElem?_eq_getElem (by omega))
      obtain ⟨ebs, els, efs, rfl, _⟩ := hrv.open
      have hrA := hfsl.inA (by omega)
      have hQ := Kp.d0 w x
      obtain ⟨wk, rfl⟩ : ∃ y, y = w := ⟨_, rfl⟩
      have hlz := hrv.len
      have hkm : a.fields[i] ∈ a.fields := List.getElem_mem _
      have hbl := fm_len (g := (fun kv : ByteArray × V => dfr E d (p ++ [keyS kv.1]) kv.2 ((hasF kv.1 b.fields).getD nulV))) (show i < a.fields.length by omega)
      have hsome : (hasF a.fields[i].1 b.fields).isSome = true := by
        unfold alike at hal
        simp only [Bool.and_eq_true, List.all_eq_true] at hal
        exact hal.2 _ hkm
      refine wp_skip ?_
      refine wp_seq ?_
      refine wp_block ?_
      refine wp_seq ?_
      refine wp_region_lit ?_
      refine s_val rfl rfl (v_ia Try.underlying31 sz77 rfl hs61 hs63 (by omega) (by omega)) ?_
      refine s_val rfl rfl (v_load rfl rfl Try.underlying77 rfl sz77 (hr.keep (hK.kp _ hrA)) rfl) ?_
      refine s_alloc cx z77 rfl rfl rfl ?_; intro b15 w cx hb15 hw15
      refine s_storeAllG cx 0 rfl rfl rfl rfl rfl rfl sz77 rfl (by exact hrv.one) ?_; intro w cx hg15
      replace hQ := (hQ.below hw15).later hg15 (Nat.le_of_eq hb15)
      refine wpList_nil ?_
      refine wp_seq ?_
      refine wp_region_lit ?_
      refine s_val rfl rfl (v_load rfl hs7 Try.underlying33 rfl sz33 (cx.row 1 rfl) rfl) ?_
      refine s_val rfl rfl (v_fa fa77_0 rfl rfl) ?_
      refine s_val rfl rfl (v_load1 rfl rfl Try.underlying9 rfl (cx.cell 0 rfl rfl)) ?_
      obtain ⟨w70, hw70⟩ : ∃ y, y = w := ⟨_, rfl⟩
      subst hw70
      have cx71b := cx
      refine s_fn cx (c80g 48 b _ a.fields[i].1 _ (deep_mono _ _ _ (deep_of_okd _ _ hob) (by omega)) (by omega) (RepV.mono (fun b hb => Nat.lt_of_lt_of_le hb.1 (hK.d0step hQ hNx).sz) (hK.d0step hQ hNx).kp _ _ hvb) hfb (by
        by_cases h7 : b.sc.kind = 7
        · exact .inl h7
        · exact .inr (List.eq_nil_of_length_eq_zero (hob.1.fields h7)))) Try.func80 rfl rfl rfl rfl rfl rfl ?_; intro q71 w cx hw71 hp71
      obtain ⟨l71, bb71, rfl, hl71, ho71, hm71⟩ := hp71
      replace hQ := hQ.below hw71
      have hbb : bb71 = (hasF a.fields[i].1 b.fields).isSome := by
        cases hh : hasF a.fields[i].1 b.fields with
        | none => rw [hh] at hm71; exact hm71
        | some u => rw [hh] at hm71; exact hm71.1
      obtain ⟨u, hu⟩ : ∃ u, hasF a.fields[i].1 b.fields = some u := Option.isSome_iff_exists.1 hsome
      rw [hu] at hm71
      obtain ⟨r71, hr71, hv71⟩ := hm71.2.rep
      obtain rfl : l71 = r71 := by simpa using hr71
      obtain ⟨w71, hw71e⟩ : ∃ y, y = w := ⟨_, rfl⟩
      subst hw71e
      have hKf := Kp.fr hw71
      refine s_val rfl rfl (v_move rfl rfl) ?_
      refine s_val rfl rfl (v_extract rfl rfl rfl) ?_
      refine s_val rfl rfl (v_extract rfl rfl rfl) ?_
      refine s_alloc cx z33 rfl rfl rfl ?_; intro b16 w cx hb16 hw16
      have hl16 := Nat.le_trans hQ.sz (Nat.le_of_eq hb16)
      refine s_storeAllG cx 0 rfl rfl rfl rfl rfl rfl (by rw [hl71]; exact sz33) (by rw [hl71]; rfl) ho71 ?_; intro w cx hg16
      replace hQ := (hQ.below hw16).later hg16 hl16
      replace hKf := (hKf.below hw16).later hg16 (Nat.le_of_eq hb16)
      refine s_val rfl rfl (v_assign rfl rfl) ?_
      refine wpList_nil ?_
      refine w_ord cx (cx.pick2 1 0 rfl rfl rfl) mixed [(0, 74), (1, 75), (2, 76), (3, 77), (6, 80), (7, 81), (8, 82)] #[true, true, true, true, false, false, true, true, true, false, false] (by kernel_rfl) (by kernel_rfl) (by kernel_rfl) (by kernel_rfl) ?_
      refine pu_one rfl (wnt_none rfl) (fun w cx => v_move rfl hs0) ?_
      refine pu_one rfl (wnt_none rfl) (fun w cx => v_move rfl hs1) ?_
      refine pu_one rfl (wnt_none rfl) (fun w cx => v_fa fa77_0 rfl rfl) ?_
      refine pu_one rfl (wnt_none rfl) (fun w cx => v_load1 rfl rfl Try.underlying9 rfl ((cx.row 0 rfl).cell 0 rfl)) ?_
      refine pu_one rfl (wnt_none rfl) (fun w cx => v_fa fa77_1 rfl rfl) ?_
      refine pu_one rfl (wnt_none rfl) (fun w cx => v_load rfl rfl Try.underlying33 rfl sz33 ((cx.row 0 rfl).tail) rfl) ?_
      refine pu_one rfl (wnt_none rfl) (fun w cx => v_load rfl rfl Try.underlying33 rfl sz33 (cx.row 1 rfl) hl71) ?_
      refine pu_nil ?_; intro w cx hwD15
      replace hQ := hQ.below hwD15
      replace hKf := hKf.below hwD15
      refine x_one (i := 4) (by kernel_rfl) rfl ?_
      refine s_fn cx (c82 a.fields[i].1 _) Try.func82 rfl rfl rfl rfl rfl rfl ?_; intro q78 w cx hw78 hp78
      subst hp78
      replace hQ := hQ.below hw78
      replace hKf := hKf.below hw78
      refine x_next ⟨.inl (cx.pick2 1 0 rfl rfl rfl), ?_⟩
      refine x_one (i := 5) (by kernel_rfl) rfl ?_
      have cx79b := cx
      refine s_fn cx (c81 (keyS a.fields[i].1) (D0 w x) p ps _ (fun b hb => hb.1) (hpp.mono (D0.up (hK.d0step hQ hNx).sz hNx) (hK.d0step hQ hNx).kp) (by omega)) Try.func81 rfl rfl rfl rfl rfl rfl ?_; intro q79 w cx hw79 hp79
      replace hQ := hQ.below hw79
      replace hKf := hKf.below hw79
      refine x_next ⟨.inl (cx.pick2 1 0 rfl rfl rfl), ?_⟩
      refine x_one (i := 9) (by kernel_rfl) rfl ?_
      have cxc := cx
      have hKc := hK.d0step hQ hNx
      obtain ⟨w82, hw82⟩ : ∃ y, y = w := ⟨_, rfl⟩
      subst hw82
      refine s_callR rfl rfl (runs_fn Try.func58 rfl rfl rfl rfl) (ih wb _ R x _ _ (p ++ [keyS a.fields[i].1]) _ a.fields[i].2 u _ _ _ cx (hp79.mono (fun b hb => ⟨hb.2, fun e => by have := (Made_lt cx79b.head b e).2; have := hb.1; omega⟩) (fun _ _ => rfl)) (RepV.mono (D0.up hKc.sz hNx) hKc.kp _ _ hrv) (RepV.mono (fun b hb => ⟨Nat.lt_of_lt_of_le hb.2 hKf.sz, fun e => by have := (Made_lt cx71b.head b e).2; have := hb.1; omega⟩) hKf.kp _ _ hv71) (hoa.2.2.2 _ hkm) (hob.2.2.2 _ (hasF_mem hu)) (hfa1.field hkm).2 (hfb.field (hasF_mem hu)).2 (by rw [List.length_append, List.length_singleton]; omega) (by omega) (by rw [hu] at hbl; simp only [Option.getD_some] at hbl; omega)) ?_; intro q83 w hp83
      obtain ⟨cs2, cx, hq2, hps2, hnx2⟩ := hp83
      have hQ2 := hQ.d0step hq2 (Nx.self _ _)
      have hG : dfr E d (p ++ [keyS a.fields[i].1]) a.fields[i].2 ((hasF a.fields[i].1 b.fields).getD nulV) = dfr E d (p ++ [keyS a.fields[i].1]) a.fields[i].2 u := by simp only [hu, Option.getD_some]
      refine x_next ⟨.inr (by kernel_rfl), ?_⟩
      refine x_one (i := 10) (by kernel_rfl) rfl ?_
      refine s_val rfl rfl (v_assign rfl rfl) ?_
      refine x_next ⟨.inr (by kernel_rfl), ?_⟩
      refine x_done (by kernel_rfl) ?_
      refine wp_region_lit ?_
      refine s_val rfl rfl (v_add rfl hs63 rfl (by omega) (by omega)) ?_
      refine s_val rfl rfl (v_move rfl rfl) ?_
      refine wpList_nil ?_
      refine ⟨gk12 - 1, _, by omega, rfl, i + 1, q83, cs' ++ cs2, by omega, rfl, hs1, hs6, hs7, hs61, hs62, rfl, ?_, hK.d0step hQ2 hNx, hNx.trans hnx2 hKc.sz, ?_⟩
      · rw [fm_take (by omega), List.length_append, hG, ← Nat.add_assoc, ← List.append_assoc]
        exact cx.drop 2
      · rw [fm_take (by omega), hG]
        exact PthsC.append _ _ _ _ (hcs.d0 hQ2 (fun q hq => (hnx2 q hq).imp id (fun h => Nat.le_trans hQ.sz h))) (PthsC.mono (fun b hb => ⟨⟨Nat.le_trans hKc.sz hb.1.1, hb.1.2⟩, hb.2⟩) (fun _ _ => rfl) _ _ hps2)
    try simp only [bsl] at hc64
    refine wp_exit ?_
    refine wp_seq ?_
    refine wp_region_lit ?_
    refine s_val rfl rfl (v_move rfl hs0) ?_
    refine s_val rfl rfl (v_assign rfl rfl) ?_
    refine wpList_nil ?_
    refine wp_ret ?_
    refine ret_tmp Try.results58 rfl ?_
    have hi : i = a.fields.length := by omega
    subst hi
    rw [List.take_of_length_le (Nat.le_refl _)] at cx hcs
    rw [hdf]
    exact ⟨cs', cx.drop 2, hK, hcs, hNx⟩
  have hi : i = a.fields.length := by omega
  have hal : alike a b = false := by
    unfold alike
    rw [hi, List.take_of_length_le (Nat.le_refl _)] at hc59
    exact hc59
  refine wp_skip ?_
  refine wp_seq ?_
  refine wp_seq ?_
  refine wp_region_lit ?_
  refine s_val rfl rfl (v_fa fa33_0 rfl hs6) ?_
  refine s_val rfl rfl (v_load1 rfl rfl Try.underlying3 rfl (cx.cell 1 rfl rfl)) ?_
  refine s_val rfl rfl (v_cmp rfl rfl rfl rfl) ?_
  refine s_val rfl rfl (v_move rfl rfl) ?_
  refine s_gval rfl rfl rfl wT (fun hc => v_fa fa33_0 rfl hs7) ?_
  refine s_gval rfl rfl rfl wT (fun hc => v_load1 rfl (by first | exact gve hc rfl | exact gve (and_l hc) rfl | exact gve (and_l (and_l hc)) rfl | rfl) Try.underlying3 rfl (cx.cell 0 rfl rfl)) ?_
  refine s_gval rfl rfl rfl wT (fun hc => v_cmp rfl (by first | exact gve hc rfl | exact gve (and_l hc) rfl | exact gve (and_l (and_l hc)) rfl | rfl) rfl rfl) ?_
  refine s_val rfl rfl (v_and rfl rfl rfl rfl) ?_
  refine s_val rfl rfl (v_move rfl rfl) ?_
  refine s_gval rfl rfl rfl wT (fun hc => v_fa fa33_6 rfl hs6) ?_
  refine s_gval rfl rfl rfl wT (fun hc => v_load1 rfl (by first | exact gve hc rfl | exact gve (and_l hc) rfl | exact gve (and_l (and_l hc)) rfl | rfl) Try.underlying30 rfl (cx.cell 1 rfl rfl)) ?_
  refine s_gval rfl rfl rfl wT (fun hc => v_lenSlice rfl (by first | exact gve hc rfl | exact gve (and_l hc) rfl | exact gve (and_l (and_l hc)) rfl | rfl) Try.underlying30) ?_
  refine s_gval rfl rfl rfl wT (fun hc => v_fa fa33_6 rfl hs7) ?_
  refine s_gval rfl rfl rfl wT (fun hc => v_load1 rfl (by first | exact gve hc rfl | exact gve (and_l hc) rfl | exact gve (and_l (and_l hc)) rfl | rfl) Try.underlying30 rfl (cx.cell 0 rfl rfl)) ?_
  refine s_gval rfl rfl rfl wT (fun hc => v_lenSlice rfl (by first | exact gve hc rfl | exact gve (and_l hc) rfl | exact gve (and_l (and_l hc)) rfl | rfl) Try.underlying30) ?_
  refine s_gval rfl rfl rfl wT (fun hc => v_cmp rfl (by first | exact gve hc rfl | exact gve (and_l hc) rfl | exact gve (and_l (and_l hc)) rfl | rfl) (by first | exact gve hc rfl | exact gve (and_l hc) rfl | exact gve (and_l (and_l hc)) rfl | rfl) rfl) ?_
  refine s_val rfl rfl (v_and rfl rfl rfl rfl) ?_
  refine wpList_nil ?_
  refine c_split rfl (fun hc102 => ?_) (fun hc102 => ?_)
  · skip
    have hll : lalike a b = true := hc102
    have hdf : dfr E (d + 1) p a b = (List.range a.list.length).flatMap (fun i : Nat => dfr E d (p ++ [idxS i]) (a.list.getD i nulV) (b.list.getD i nulV)) := by
      simp only [dfr]; rw [if_neg (fun h => hne ((hE a b).1 h)), if_neg (by rw [hal]; simp), if_pos hll]
    rw [hdf] at hnb
    have hlen : a.list.length = b.list.length := by
      unfold lalike at hll
      simp only [Bool.and_eq_true, beq_iff_eq] at hll
      omega
    refine wp_seq ?_
    refine wp_seq ?_
    refine wp_region_lit ?_
    refine s_val rfl rfl (v_fa fa33_6 rfl hs6) ?_
    refine s_val rfl rfl (v_load1 rfl rfl Try.underlying30 rfl (cx.cell 1 rfl rfl)) ?_
    refine s_val rfl rfl (v_lenSlice rfl rfl Try.underlying30) ?_
    refine s_val rfl rfl (v_move rfl rfl) ?_
    refine wpList_nil ?_
    refine wp_block ?_
    refine w_loop (fun k f w1 => ∃ (i : Nat) (x : Value) (cs' : List Value), k + i = a.list.length ∧ f 0 = x ∧ f 1 = ps ∧ f 6 = .pointer (some ⟨b6, 0, none⟩) ∧ f 7 = .pointer (some ⟨b7, 0, none⟩) ∧ f 104 = .slice la a.list.length lc ∧ f 105 = .int .i64 a.list.length ∧ f 106 = .int .i64 i ∧ Cxr wb w1 ((b7, .cells (vrow b.sc bbs (.slice ma b.list.length mc) (.slice ga b.fields.length gc)).toArray 33) :: (b6, .cells (vrow a.sc abs (.slice la a.list.length lc) (.slice fa a.fields.length fc)).toArray 33) :: L) (⟨24, 1, x, n + ((List.range i).flatMap (fun i : Nat => dfr E d (p ++ [idxS i]) (a.list.getD i nulV) (b.list.getD i nulV))).length, cs ++ cs'⟩ :: R) ∧ Kp (D0 w0 v) w0 w1 ∧ Nx w0 v x ∧ PthsC (fun b => Fr w0 w1 b ∧ x.ownBlock ≠ some b) w1 ((List.range i).flatMap (fun i : Nat => dfr E d (p ++ [idxS i]) (a.list.getD i nulV) (b.list.getD i nulV))) cs') (a.list.length) ?_ ?_
    · skip
      exact ⟨0, v, [], by omega, hs0, hs1, hs6, hs7, rfl, rfl, rfl, by simpa using cx, hK, Nx.self _ _, trivial⟩
    intro gk20 f w hJ
    obtain ⟨i, x, cs', hki, hs0, hs1, hs6, hs7, hs104, hs105, hs106, cx, hK, hNx, hcs⟩ := hJ
    refine wp_seq ?_
    refine wp_region_lit ?_
    refine s_val rfl rfl (v_cmp rfl hs106 hs105 rfl) ?_
    refine wpList_nil ?_
    refine wp_seq ?_
    refine c_split rfl (fun hc107 => ?_) (fun hc107 => ?_)
    · skip
      try simp only [bsl] at hc107
      obtain rfl := hla (by omega)
      obtain rfl := hma (by omega)
      have hge1 : a.list[i]? = some a.list[i] := List.getElem?_eq_getElem (by omega)
      have hge2 : b.list[i]? = some b.list[i] := List.getElem?_eq_getElem (by omega)
      obtain ⟨r1, hr1, hrv1⟩ := hlget i _ hge1
      obtain ⟨r2, hr2, hrv2⟩ := hmget i _ hge2
      have hrA1 := hlsl.inA (by omega)
      have hrA2 := hmsl.inA (by omega)
      have hQ := Kp.d0 w x
      obtain ⟨wk, rfl⟩ : ∃ y, y = w := ⟨_, rfl⟩
      have hbl := rg_len (g := (fun i : Nat => dfr E d (p ++ [idxS i]) (a.list.getD i nulV) (b.list.getD i nulV))) (show i < a.list.length by omega)
      have hgd1 : a.list.getD i nulV = a.list[i] := by rw [List.getD, hge1]; rfl
      have hgd2 : b.list.getD i nulV = b.list[i] := by rw [List.getD, hge2]; rfl
      simp only [hgd1, hgd2] at hbl
      refine wp_skip ?_
      refine wp_seq ?_
      refine wp_block ?_
      refine wp_seq ?_
      refine wp_region_lit ?_
      refine s_val rfl rfl (v_move rfl hs106) ?_
      refine s_val rfl rfl (v_assign rfl rfl) ?_
      refine wpList_nil ?_
      refine w_ordK cx (cx.pick2 1 0 rfl rfl rfl) (hK.d0step hQ hNx).kp mixed [(0, 109), (1, 110), (2, 111), (5, 114), (6, 115), (7, 116), (8, 117), (9, 118), (10, 119), (11, 120), (12, 121), (13, 122), (14, 123)] #[true, true, true, false, false, true, true, true, true, true, true, true, true, true, true, false, false] (by kernel_rfl) (by kernel_rfl) (by kernel_rfl) (by kernel_rfl) ?_
      refine pu_one rfl (wnt_none rfl) (fun w hS => by obtain ⟨cx, hkS⟩ := hS; exact v_move rfl hs0) ?_
      refine pu_one rfl (wnt_none rfl) (fun w hS => by obtain ⟨cx, hkS⟩ := hS; exact v_move rfl hs1) ?_
      refine pu_one rfl (wnt_none rfl) (fun w hS => by obtain ⟨cx, hkS⟩ := hS; exact v_move rfl rfl) ?_
      refine pu_one rfl (wnt_none rfl) (fun w hS => by obtain ⟨cx, hkS⟩ := hS; exact v_fa fa33_6 rfl hs6) ?_
      refine pu_one rfl (wnt_none rfl) (fun w hS => by obtain ⟨cx, hkS⟩ := hS; exact v_load1 rfl rfl Try.underlying30 rfl (cx.cell 0 rfl rfl)) ?_
      refine pu_one rfl (wnt_none rfl) (fun w hS => by obtain ⟨cx, hkS⟩ := hS; exact v_move rfl rfl) ?_
      refine pu_one rfl (wnt_none rfl) (fun w hS => by obtain ⟨cx, hkS⟩ := hS; exact v_ia Try.underlying30 sz33 rfl rfl rfl (by omega) (by omega)) ?_
      refine pu_one rfl (wnt_none rfl) (fun w hS => by obtain ⟨cx, hkS⟩ := hS; exact v_load rfl rfl Try.underlying33 rfl sz33 (hr1.keep (hkS _ hrA1)) hrv1.len) ?_
      refine pu_one rfl (wnt_none rfl) (fun w hS => by obtain ⟨cx, hkS⟩ := hS; exact v_fa fa33_6 rfl hs7) ?_
      refine pu_one rfl (wnt_none rfl) (fun w hS => by obtain ⟨cx, hkS⟩ := hS; exact v_load1 rfl rfl Try.underlying30 rfl (cx.cell 1 rfl rfl)) ?_
      refine pu_one rfl (wnt_none rfl) (fun w hS => by obtain ⟨cx, hkS⟩ := hS; exact v_move rfl rfl) ?_
      refine pu_one rfl (wnt_none rfl) (fun w hS => by obtain ⟨cx, hkS⟩ := hS; exact v_ia Try.underlying30 sz33 rfl rfl rfl (by omega) (by omega)) ?_
      refine pu_one rfl (wnt_none rfl) (fun w hS => by obtain ⟨cx, hkS⟩ := hS; exact v_load rfl rfl Try.underlying33 rfl sz33 (hr2.keep (hkS _ hrA2)) hrv2.len) ?_
      refine pu_nil ?_; intro w cx hwD22 hkS22
      replace hQ := hQ.below hwD22
      refine x_one (i := 3) (by kernel_rfl) rfl ?_
      refine s_fn cx (c83 i _) Try.func83 rfl rfl rfl rfl rfl rfl ?_; intro q112 w cx hw112 hp112
      subst hp112
      replace hQ := hQ.below hw112
      refine x_next ⟨.inl ⟨cx.pick2 1 0 rfl rfl rfl, (hK.d0step hQ hNx).kp⟩, ?_⟩
      refine x_one (i := 4) (by kernel_rfl) rfl ?_
      have cx113b := cx
      refine s_fn cx (c81 (idxS i) (D0 w x) p ps _ (fun b hb => hb.1) (hpp.mono (D0.up (hK.d0step hQ hNx).sz hNx) (hK.d0step hQ hNx).kp) (by omega)) Try.func81 rfl rfl rfl rfl rfl rfl ?_; intro q113 w cx hw113 hp113
      replace hQ := hQ.below hw113
      refine x_next ⟨.inl ⟨cx.pick2 1 0 rfl rfl rfl, (hK.d0step hQ hNx).kp⟩, ?_⟩
      refine x_one (i := 15) (by kernel_rfl) rfl ?_
      have cxc := cx
      have hKc := hK.d0step hQ hNx
      obtain ⟨w82, hw82⟩ : ∃ y, y = w := ⟨_, rfl⟩
      subst hw82
      refine s_callR rfl rfl (runs_fn Try.func58 rfl rfl rfl rfl) (ih wb _ R x _ _ (p ++ [idxS i]) _ a.list[i] b.list[i] _ _ _ cx (hp113.mono (fun b hb => ⟨hb.2, fun e => by have := (Made_lt cx113b.head b e).2; have := hb.1; omega⟩) (fun _ _ => rfl)) (RepV.mono (D0.up hKc.sz hNx) hKc.kp _ _ hrv1) (RepV.mono (D0.up hKc.sz hNx) hKc.kp _ _ hrv2) (hoa.2.2.1 _ (List.getElem_mem _)) (hob.2.2.1 _ (List.getElem_mem _)) (hfa1.elem (List.getElem_mem _)) (hfb.elem (List.getElem_mem _)) (by rw [List.length_append, List.length_singleton]; omega) (by omega) (by omega)) ?_; intro q124 w hp124
      obtain ⟨cs2, cx, hq2, hps2, hnx2⟩ := hp124
      have hQ2 := hQ.d0step hq2 (Nx.self _ _)
      have hG : dfr E d (p ++ [idxS i]) (a.list.getD i nulV) (b.list.getD i nulV) = dfr E d (p ++ [idxS i]) a.list[i] b.list[i] := by simp only [hgd1, hgd2]
      refine x_next ⟨.inr (by kernel_rfl), ?_⟩
      refine x_one (i := 16) (by kernel_rfl) rfl ?_
      refine s_val rfl rfl (v_assign rfl rfl) ?_
      refine x_next ⟨.inr (by kernel_rfl), ?_⟩
      refine x_done (by kernel_rfl) ?_
      refine wp_region_lit ?_
      refine s_val rfl rfl (v_add rfl hs106 rfl (by omega) (by omega)) ?_
      refine s_val rfl rfl (v_move rfl rfl) ?_
      refine wpList_nil ?_
      refine ⟨gk20 - 1, _, by omega, rfl, i + 1, q124, cs' ++ cs2, by omega, rfl, hs1, hs6, hs7, hs104, hs105, rfl, ?_, hK.d0step hQ2 hNx, hNx.trans hnx2 hKc.sz, ?_⟩
      · rw [rg_take, List.length_append, hG, ← Nat.add_assoc, ← List.append_assoc]
        exact cx
      · rw [rg_take, hG]
        exact PthsC.append _ _ _ _ (hcs.d0 hQ2 (fun q hq => (hnx2 q hq).imp id (fun h => Nat.le_trans hQ.sz h))) (PthsC.mono (fun b hb => ⟨⟨Nat.le_trans hKc.sz hb.1.1, hb.1.2⟩, hb.2⟩) (fun _ _ => rfl) _ _ hps2)
    try simp only [bsl] at hc107
    refine wp_exit ?_
    refine wp_seq ?_
    refine wp_region_lit ?_
    refine s_val rfl rfl (v_move rfl hs0) ?_
    refine s_val rfl rfl (v_assign rfl rfl) ?_
    refine wpList_nil ?_
    refine wp_ret ?_
    refine ret_tmp Try.results58 rfl ?_
    have hi : i = a.list.length := by omega
    subst hi
    rw [hdf]
    exact ⟨cs', cx.drop 2, hK, hcs, hNx⟩
  refine wp_skip ?_
  refine wp_seq ?_
  refine wp_region_lit ?_
  refine s_val rfl rfl (v_move rfl hs0) ?_
  refine s_val rfl rfl (v_move rfl hs1) ?_
  have cx129 := cx
  have hK129a := hK.sz
  refine s_fn cx (c84 (D0 w v) p [] ps _ _ (fun b hb => hb.1) (hpp.mono (D0.up hK.sz (Nx.self _ _)) hK.kp) PthA.nil (by simp; omega)) Try.func84 rfl rfl rfl rfl rfl rfl ?_; intro q129 w cx hw129 hp129
  replace hK := hK.below hw129
  have hKn := Kp.fr hw129
  obtain ⟨_, _, hsl129, _⟩ := id hp129
  obtain ⟨qa, qc, rfl, _⟩ := hsl129.form
  refine s_bsl1 cx Try.underlying46 sz24 z24 rfl rfl rfl rfl rfl rfl rfl rfl ?_; intro b130 w cx hb130 hw130
  replace hK := hK.below hw130
  replace hKn := hKn.below hw130
  have hK129 := hK.sz
  have hm1 := hKn.sz
  refine s_appendG (m := 1) cx ei24 Try.underlying46 rfl rfl rfl rfl rfl (cx.row 0 rfl) rfl rfl (by omega) ?_; intro v131 w cx hgr131 hnw131
  replace hK := hK.d0own hgr131 rfl (Nx.self _ _)
  replace hKn := hKn.frOwn hgr131 (fun q hq => (Made_lt cx129.head q hq).2)
  refine s_val rfl rfl (v_assign rfl rfl) ?_
  refine wpList_nil ?_
  refine wp_ret ?_
  refine ret_tmp Try.results58 rfl ?_
  have hd1 : dfr E (d + 1) p a b = [p] := by
    simp only [dfr]
    rw [if_neg (fun h => hne ((hE a b).1 h)), if_neg (by rw [hal]; simp), if_neg (by unfold lalike; rw [hc102]; simp)]
  rw [hd1]
  have hfin : PthA (fun b => Fr w0 w b ∧ v131.ownBlock ≠ some b) w (.slice qa (p ++ []).length qc) p := by
    have h2 := PthA.mono (A' := fun b => Fr w0 w b ∧ v131.ownBlock ≠ some b) (fun b hb => ⟨⟨Nat.le_trans hK129a hb.1, Nat.lt_of_lt_of_le hb.2 hKn.sz⟩, fun e => (hnw131 b e).elim (fun h => by have := (Made_lt cx129.head b h).2; have := hb.1; omega) (fun h => by have := hb.2; omega)⟩) hKn.kp hp129
    rw [List.append_nil] at h2 ⊢
    exact h2
  exact ⟨[_], cx.drop 3, hK, ⟨hfin, trivial⟩, fun q hq => (hnw131 q hq).imp id (fun h => Nat.le_trans hK129 h)⟩
end Go.Proofs.Ytmkihcdcgkdilaa
end
section
namespace Go.Proofs.Ytmkihcdcgkdilaa
open Go Go.Dk Go.RowKit
set_option linter.unusedSimpArgs false
set_option linter.unusedVariables false
attribute [local irreducible] Go.wpList Go.Code.wp Go.bodyPost Go.wpStill Go.wpQuiet
theorem lalike_not {a b : V} (h : lalike a b = true) : alike a b = false := by
  unfold lalike at h
  unfold alike
  simp only [Bool.and_eq_true, beq_iff_eq] at h
  rw [h.1.1]; rfl
def Ca (A : Nat → Prop) (w0 w : World) (x : Value) (b : Nat) : Prop := (A b ∨ Fr w0 w b) ∧ x.ownBlock ≠ some b
theorem Ca.d0 {A : Nat → Prop} {w0 w : World} {x : Value} (hA : ∀ b, A b → b < w0.heap.size) (hs : w0.heap.size ≤ w.heap.size) : ∀ b, Ca A w0 w x b → D0 w x b := fun b h => ⟨h.1.elim (fun h => Nat.lt_of_lt_of_le (hA b h) hs) (fun h => h.2), h.2⟩
theorem Ca.next {A : Nat → Prop} {w0 w w' : World} {x y : Value} (hA : ∀ b, A b → b < w0.heap.size) (h0 : w0.heap.size ≤ w.heap.size) (hs : w.heap.size ≤ w'.heap.size) (hy : Nx w x y) : ∀ b, Ca A w0 w x b → Ca A w0 w' y b := fun b h =>
  ⟨h.1.imp id (fun h => ⟨h.1, Nat.lt_of_lt_of_le h.2 hs⟩), fun e => (hy b e).elim h.2 fun h' => by
    have := (Ca.d0 hA h0 b h).1; omega⟩
theorem Ca.join {A : Nat → Prop} {w0 wj wk w' : World} {x y : Value} {m : Nat} (hA : ∀ b, A b → b < w0.heap.size) (h0 : w0.heap.size ≤ wj.heap.size) (hs : wk.heap.size ≤ w'.heap.size) (hj : wj.heap.size ≤ wk.heap.size) (hx : ∀ q, x.ownBlock = some q → q < wj.heap.size) (hm : wk.heap.size ≤ m) (hy : ∀ q, y.ownBlock = some q → x.ownBlock = some q ∨ m ≤ q) : ∀ b, (A b ∨ Fr w0 wj b) ∧ x.ownBlock ≠ some b ∨ Fr wj wk b → Ca A w0 w' y b := by
  rintro b (⟨h, h2⟩ | h)
  · refine ⟨h.imp id (fun h => ⟨h.1, by have := h.2; omega⟩), fun e => (hy b e).elim h2 fun h' => ?_⟩
    rcases h with h | h
    · have := hA b h; omega
    · have := h.2; omega
  · refine ⟨.inr ⟨by have := h.1; omega, by have := h.2; omega⟩, fun e => (hy b e).elim (fun h' => ?_) fun h' => ?_⟩
    · have := hx b h'; have := h.1; omega
    · have := h.2; omega
set_option maxRecDepth 10000 in
set_option maxHeartbeats 6400000 in
theorem c59 (E : V → V → Bool) (hE : ∀ x y, E x y = true ↔ canon x = canon y) : ∀ (d : Nat) (p : List Stp) (ps : Value) (a b : V) (ra rb : List Value) (A : Nat → Prop) (w0 : World), (∀ b, A b → b < w0.heap.size) → PthA A w0 ps p → RepV A w0 a ra → RepV A w0 b rb → okd d a → okd d b → Fine a → Fine b → p.length + d ≤ 100 → d ≤ 48 → (dfr E d p a b).length ≤ 1048576 →
    Fc Try.prog 59 [ps, .agg ra.toArray, .agg rb.toArray] w0 (fun x w' => ∃ cs' : List Value, w'.ownsRow w0.heap.size 24 1 x (dfr E d p a b).length cs' ∧ PthsC (Ca A w0 w' x) w' (dfr E d p a b) cs') := by
  intro d
  induction d with
  | zero => intro p ps a b ra rb A w0 hA hpp hva hvb hoa; exact hoa.elim
  | succ d ih =>
  intro p ps a b ra rb A w0 hA hpp hva hvb hoa hob hfa1 hfb hpd hd48 hnb
  obtain ⟨abs, als, afs, rfl, _, hal0, haf0⟩ := id (RepV.open hva)
  obtain ⟨bbs, bls, bfs, rfl, _, hbl0, hbf0⟩ := id (RepV.open hvb)
  obtain ⟨lb, lo, hlsl, hlreps⟩ := hal0
  obtain ⟨la, lc, rfl, hla⟩ := hlsl.form
  have hlget := fun i x h => RepLs.get a.list lo i x hlreps h
  obtain ⟨mb, mo, hmsl, hmreps⟩ := hbl0
  obtain ⟨ma, mc, rfl, hma⟩ := hmsl.form
  have hmget := fun i x h => RepLs.get b.list mo i x hmreps h
  obtain ⟨fb, fo, hfsl, hfreps⟩ := haf0
  obtain ⟨fa, fc, rfl, hfa⟩ := hfsl.form
  have hfget := fun i kv h => RepFs.get a.fields fo i kv hfreps h
  obtain ⟨gb, go, hgsl, hgreps⟩ := hbf0
  obtain ⟨ga, gc, rfl, hga⟩ := hgsl.form
  have hall := hfa1.self.2.2.2.1
  have hafl := hfa1.self.2.2.2.2
  have hbfl := hfb.self.2.2.2.2
  refine ret_enter Try.func59 rfl Try.ntmps59 rfl ?_
  have cx := Ctx.start w0
  refine wp_seq ?_
  refine wp_region_lit ?_
  refine s_box cx rfl rfl rfl rfl rfl ?_; intro b4 w cx hb4 hw4
  refine s_box cx rfl rfl rfl rfl rfl ?_; intro b5 w cx hb5 hw5
  refine s_val rfl rfl (v_assign rfl rfl) ?_
  refine wpList_nil ?_
  refine wp_seq ?_
  refine wp_seq ?_
  refine wp_region_lit ?_
  refine s_val rfl rfl (v_load rfl rfl Try.underlying33 rfl sz33 (cx.row 1 rfl) rfl) ?_
  refine s_val rfl rfl (v_load rfl rfl Try.underlying33 rfl sz33 (cx.row 0 rfl) rfl) ?_
  refine s_fnB cx (c27 a b _ _ _ hfa1 hfb (RepV.mono (fun b hb => Nat.lt_of_lt_of_le (hA b hb) cx.ext.size) (fun b hb => cx.ext.block b (hA b hb)) _ _ hva) (RepV.mono (fun b hb => Nat.lt_of_lt_of_le (hA b hb) cx.ext.size) (fun b hb => cx.ext.block b (hA b hb)) _ _ hvb)) Try.func27 rfl rfl rfl rfl rfl rfl ?_; intro q16 w cx hw16 hp16
  refine wpList_nil ?_
  refine c_split rfl (fun hc16 => ?_) (fun hc16 => ?_)
  · skip
    refine wp_seq ?_
    refine wp_region_lit ?_
    refine s_val rfl rfl (v_assign rfl rfl) ?_
    refine wpList_nil ?_
    refine wp_ret ?_
    refine ret_tmp Try.results59 rfl ?_
    have hd0 : dfr E (d + 1) p a b = [] := by simp only [dfr]; rw [if_pos ((hE a b).2 (hp16.1 hc16))]
    rw [hd0]
    exact ⟨cx.ext, [], World.ownsRow_nil _ _ _ _, trivial⟩
  have hne : ¬ canon a = canon b := fun h => by rw [hp16.2 h] at hc16; cases hc16
  refine wp_skip ?_
  refine wp_seq ?_
  refine wp_region_lit ?_
  replace cx := cx.nilRow 24 1
  refine s_val rfl rfl (v_assign rfl rfl) ?_
  refine wpList_nil ?_
  refine wp_seq ?_
  refine wp_seq ?_
  refine wp_region_lit ?_
  refine s_val rfl rfl (v_fa fa33_0 rfl rfl) ?_
  refine s_val rfl rfl (v_load1 rfl rfl Try.underlying3 rfl (cx.cell 1 rfl rfl)) ?_
  refine s_val rfl rfl (v_cmp rfl rfl rfl rfl) ?_
  refine s_val rfl rfl (v_move rfl rfl) ?_
  refine s_gval rfl rfl rfl wT (fun hc => v_fa fa33_0 rfl (by first | exact gve hc rfl | exact gve (and_l hc) rfl | exact gve (and_l (and_l hc)) rfl | rfl)) ?_
  refine s_gval rfl rfl rfl wT (fun hc => v_load1 rfl (by first | exact gve hc rfl | exact gve (and_l hc) rfl | exact gve (and_l (and_l hc)) rfl | rfl) Try.underlying3 rfl (cx.cell 0 rfl rfl)) ?_
  refine s_gval rfl rfl rfl wT (fun hc => v_cmp rfl (by first | exact gve hc rfl | exact gve (and_l hc) rfl | exact gve (and_l (and_l hc)) rfl | rfl) rfl rfl) ?_
  refine s_val rfl rfl (v_and rfl rfl rfl rfl) ?_
  refine s_val rfl rfl (v_move rfl rfl) ?_
  refine s_gval rfl rfl rfl wT (fun hc => v_fa fa33_6 rfl (by first | exact gve hc rfl | exact gve (and_l hc) rfl | exact gve (and_l (and_l hc)) rfl | rfl)) ?_
  refine s_gval rfl rfl rfl wT (fun hc => v_load1 rfl (by first | exact gve hc rfl | exact gve (and_l hc) rfl | exact gve (and_l (and_l hc)) rfl | rfl) Try.underlying30 rfl (cx.cell 1 rfl rfl)) ?_
  refine s_gval rfl rfl rfl wT (fun hc => v_lenSlice rfl (by first | exact gve hc rfl | exact gve (and_l hc) rfl | exact gve (and_l (and_l hc)) rfl | rfl) Try.underlying30) ?_
  refine s_gval rfl rfl rfl wT (fun hc => v_fa fa33_6 rfl (by first | exact gve hc rfl | exact gve (and_l hc) rfl | exact gve (and_l (and_l hc)) rfl | rfl)) ?_
  refine s_gval rfl rfl rfl wT (fun hc => v_load1 rfl (by first | exact gve hc rfl | exact gve (and_l hc) rfl | exact gve (and_l (and_l hc)) rfl | rfl) Try.underlying30 rfl (cx.cell 0 rfl rfl)) ?_
  refine s_gval rfl rfl rfl wT (fun hc => v_lenSlice rfl (by first | exact gve hc rfl | exact gve (and_l hc) rfl | exact gve (and_l (and_l hc)) rfl | rfl) Try.underlying30) ?_
  refine s_gval rfl rfl rfl wT (fun hc => v_cmp rfl (by first | exact gve hc rfl | exact gve (and_l hc) rfl | exact gve (and_l (and_l hc)) rfl | rfl) (by first | exact gve hc rfl | exact gve (and_l hc) rfl | exact gve (and_l (and_l hc)) rfl | rfl) rfl) ?_
  refine s_val rfl rfl (v_and rfl rfl rfl rfl) ?_
  refine wpList_nil ?_
  refine c_split rfl (fun hc33 => ?_) (fun hc33 => ?_)
  · skip
    have hll : lalike a b = true := hc33
    have hdf : dfr E (d + 1) p a b = (List.range a.list.length).flatMap (fun i : Nat => dfr E d (p ++ [idxS i]) (a.list.getD i nulV) (b.list.getD i nulV)) := by
      simp only [dfr]; rw [if_neg (fun h => hne ((hE a b).1 h)), if_neg (by rw [lalike_not hll]; simp), if_pos hll]
    rw [hdf] at hnb
    have hlen : a.list.length = b.list.length := by
      unfold lalike at hll
      simp only [Bool.and_eq_true, beq_iff_eq] at hll
      omega
    refine wp_seq ?_
    refine wp_seq ?_
    refine wp_region_lit ?_
    refine s_val rfl rfl (v_assign rfl rfl) ?_
    refine wpList_nil ?_
    refine wp_block ?_
    refine w_loop (fun k f w1 => ∃ (i : Nat) (x : Value) (cs' : List Value), k + i = a.list.length ∧ f 0 = ps ∧ f 4 = .pointer (some ⟨b4, 0, none⟩) ∧ f 5 = .pointer (some ⟨b5, 0, none⟩) ∧ f 7 = x ∧ f 8 = .int .i64 i ∧ Cxr w0 w1 ((b5, .cells (vrow b.sc bbs (.slice ma b.list.length mc) (.slice ga b.fields.length gc)).toArray 33) :: (b4, .cells (vrow a.sc abs (.slice la a.list.length lc) (.slice fa a.fields.length fc)).toArray 33) :: []) [⟨24, 1, x, ((List.range i).flatMap (fun i : Nat => dfr E d (p ++ [idxS i]) (a.list.getD i nulV) (b.list.getD i nulV))).length, cs'⟩] ∧ PthsC (Ca A w0 w1 x) w1 ((List.range i).flatMap (fun i : Nat => dfr E d (p ++ [idxS i]) (a.list.getD i nulV) (b.list.getD i nulV))) cs') (a.list.length) ?_ ?_
    · skip
      exact ⟨0, _, [], by omega, rfl, rfl, rfl, rfl, rfl, cx, trivial⟩
    intro gk6 f w hJ
    obtain ⟨i, x, cs', hki, hs0, hs4, hs5, hs7, hs8, cx, hcs⟩ := hJ
    refine wp_seq ?_
    refine wp_seq ?_
    refine wp_region_lit ?_
    refine s_val rfl rfl (v_move rfl hs8) ?_
    refine s_val rfl rfl (v_fa fa33_6 rfl hs4) ?_
    refine s_val rfl rfl (v_load1 rfl rfl Try.underlying30 rfl (cx.cell 1 rfl rfl)) ?_
    refine s_val rfl rfl (v_lenSlice rfl rfl Try.underlying30) ?_
    refine s_val rfl rfl (v_cmp rfl rfl rfl rfl) ?_
    refine wpList_nil ?_
    refine c_split rfl (fun hc38 => ?_) (fun hc38 => ?_)
    · skip
      try simp only [bsl] at hc38
      obtain rfl := hla (by omega)
      obtain rfl := hma (by omega)
      have hge1 : a.list[i]? = some a.list[i] := List.getElem?_eq_getElem (by omega)
      have hge2 : b.list[i]? = some b.list[i] := List.getElem?_eq_getElem (by omega)
      obtain ⟨r1, hr1, hrv1⟩ := hlget i _ hge1
      obtain ⟨r2, hr2, hrv2⟩ := hmget i _ hge2
      have hrA1 := hlsl.inA (by omega)
      have hrA2 := hmsl.inA (by omega)
      have hQ := Kp.d0 w x
      obtain ⟨wk, rfl⟩ : ∃ y, y = w := ⟨_, rfl⟩
      have hk0 := cx.ext.size
      have hbl := rg_len (g := (fun i : Nat => dfr E d (p ++ [idxS i]) (a.list.getD i nulV) (b.list.getD i nulV))) (show i < a.list.length by omega)
      have hgd1 : a.list.getD i nulV = a.list[i] := by rw [List.getD, hge1]; rfl
      have hgd2 : b.list.getD i nulV = b.list[i] := by rw [List.getD, hge2]; rfl
      simp only [hgd1, hgd2] at hbl
      refine wp_skip ?_
      refine wp_seq ?_
      refine wp_block ?_
      refine w_ord cx (cx.pick2 1 0 rfl rfl rfl) mixed [(0, 41), (1, 42), (2, 43), (4, 45), (5, 46), (6, 47), (7, 48), (8, 49), (9, 50), (10, 51), (11, 52), (12, 53), (13, 54)] #[true, true, true, false, true, true, true, true, true, true, true, true, true, true, false, false, false] (by kernel_rfl) (by kernel_rfl) (by kernel_rfl) (by kernel_rfl) ?_
      refine pu_one rfl (wnt_none rfl) (fun w cx => v_move rfl hs7) ?_
      refine pu_one rfl (wnt_none rfl) (fun w cx => v_move rfl hs0) ?_
      refine pu_one rfl (wnt_none rfl) (fun w cx => v_move rfl hs8) ?_
      refine pu_one rfl (wnt_none rfl) (fun w cx => v_fa fa33_6 rfl hs4) ?_
      refine pu_one rfl (wnt_none rfl) (fun w cx => v_load1 rfl rfl Try.underlying30 rfl (cx.cell 0 rfl rfl)) ?_
      refine pu_one rfl (wnt_none rfl) (fun w cx => v_move rfl hs8) ?_
      refine pu_one rfl (wnt_none rfl) (fun w cx => v_ia Try.underlying30 sz33 rfl rfl rfl (by omega) (by omega)) ?_
      refine pu_one rfl (wnt_none rfl) (fun w cx => v_load rfl rfl Try.underlying33 rfl sz33 (hr1.keep (cx.ext.block _ (hA _ hrA1))) hrv1.len) ?_
      refine pu_one rfl (wnt_none rfl) (fun w cx => v_fa fa33_6 rfl hs5) ?_
      refine pu_one rfl (wnt_none rfl) (fun w cx => v_load1 rfl rfl Try.underlying30 rfl (cx.cell 1 rfl rfl)) ?_
      refine pu_one rfl (wnt_none rfl) (fun w cx => v_move rfl hs8) ?_
      refine pu_one rfl (wnt_none rfl) (fun w cx => v_ia Try.underlying30 sz33 rfl rfl rfl (by omega) (by omega)) ?_
      refine pu_one rfl (wnt_none rfl) (fun w cx => v_load rfl rfl Try.underlying33 rfl sz33 (hr2.keep (cx.ext.block _ (hA _ hrA2))) hrv2.len) ?_
      refine pu_nil ?_; intro w cx hwD8
      replace hQ := hQ.below hwD8
      refine x_one (i := 3) (by kernel_rfl) rfl ?_
      have cx44b := cx
      refine s_fn cx (c85 i A p ps _ (fun b hb => Nat.lt_of_lt_of_le (hA b hb) cx.ext.size) (hpp.mono (fun _ h => h) (fun b hb => cx.ext.block b (hA b hb))) (by omega)) Try.func85 rfl rfl rfl rfl rfl rfl ?_; intro q44 w cx hw44 hp44
      replace hQ := hQ.below hw44
      refine x_next ⟨.inl (cx.pick2 1 0 rfl rfl rfl), ?_⟩
      refine x_one (i := 14) (by kernel_rfl) rfl ?_
      have cxc := cx
      obtain ⟨wj, hwj⟩ : ∃ y, y = w := ⟨_, rfl⟩
      subst hwj
      have hk1 := cx.ext.size
      refine s_fn cx (ih (p ++ [idxS i]) _ a.list[i] b.list[i] _ _ (fun b => (A b ∨ Fr w0 wj b) ∧ x.ownBlock ≠ some b) _ (fun b hb => hb.1.elim (fun h => Nat.lt_of_lt_of_le (hA b h) hk1) (fun h => h.2)) (hp44.mono (fun b hb => ⟨.inr ⟨Nat.le_trans cx44b.ext.size hb.1, hb.2⟩, fun e => by have := (Made_lt cx44b.head b e).2; have := hb.1; omega⟩) (fun _ _ => rfl)) (RepV.mono (fun b hb => ⟨.inl hb, fun e => by have := (Made_lt cx.head b e).1; have := hA b hb; omega⟩) (fun b hb => cx.ext.block b (hA b hb)) _ _ hrv1) (RepV.mono (fun b hb => ⟨.inl hb, fun e => by have := (Made_lt cx.head b e).1; have := hA b hb; omega⟩) (fun b hb => cx.ext.block b (hA b hb)) _ _ hrv2) (hoa.2.2.1 _ (List.getElem_mem _)) (hob.2.2.1 _ (List.getElem_mem _)) (hfa1.elem (List.getElem_mem _)) (hfb.elem (List.getElem_mem _)) (by rw [List.length_append, List.length_singleton]; omega) (by omega) (by omega)) Try.func59 rfl rfl rfl rfl rfl rfl ?_; intro q55 w cx hw55 hp55
      replace hQ := hQ.below hw55
      obtain ⟨cs2, hrow2, hps2⟩ := hp55
      obtain ⟨wd, hwd⟩ : ∃ y, y = w := ⟨_, rfl⟩
      subst hwd
      have hlen2 := (PthsC.len _ _ hps2)
      have hm0 := hQ.sz
      have hG : dfr E d (p ++ [idxS i]) (a.list.getD i nulV) (b.list.getD i nulV) = dfr E d (p ++ [idxS i]) a.list[i] b.list[i] := by simp only [hgd1, hgd2]
      refine x_next ⟨.inl (cx.pick2 1 0 rfl rfl rfl), ?_⟩
      refine x_one (i := 15) (by kernel_rfl) rfl ?_
      refine s_appendS cx ei24 Try.underlying46 rfl rfl rfl rfl rfl (src_rowk hrow2) (by rw [hlen2.1]; omega) hlen2.2 (by omega) ?_; intro v56 w cx hgr56 hnw56
      replace hQ := hQ.d0own hgr56 rfl (Nx.self _ _)
      have hKj : Kp (fun b => (A b ∨ Fr w0 wj b) ∧ x.ownBlock ≠ some b ∨ Fr wj wd b) wd w := (Kp.refl (fun b hb => hb.elim (fun h => h.1.elim (fun h => by have := hA b h; have := hw55.size; omega) (fun h => by have := h.2; have := hw55.size; omega)) (fun h => h.2))).grown hgr56 (fun b hb e => hb.elim (fun h => h.2 e) (fun h => by have := (Made_lt cxc.head b e).2; have := h.1; omega))
      have hj1 := PthsC.mono (A' := Ca A w0 w v56) (fun b hb => Ca.join hA hk1 hKj.sz hw55.size (fun q hq => (Made_lt cxc.head q hq).2) (Nat.le_refl _) hnw56 b (hb.1.imp id id)) (fun b hb => hKj.kp b (hb.1.imp id id)) _ _ hps2
      have hNw : Nx wk x v56 := fun q hq => (hnw56 q hq).imp id (fun h => Nat.le_trans hm0 h)
      have hj0 := PthsC.mono (A' := Ca A w0 w v56) (fun b hb => Ca.next hA hk0 hQ.sz hNw b hb) (fun b hb => hQ.kp b (Ca.d0 hA hk0 b hb)) _ _ hcs
      refine x_next ⟨.inr (by kernel_rfl), ?_⟩
      refine x_one (i := 16) (by kernel_rfl) rfl ?_
      refine s_val rfl rfl (v_assign rfl rfl) ?_
      refine x_next ⟨.inr (by kernel_rfl), ?_⟩
      refine x_done (by kernel_rfl) ?_
      refine wp_region_lit ?_
      refine s_val rfl rfl (v_move rfl hs8) ?_
      refine s_val rfl rfl (v_add rfl rfl rfl (by omega) (by omega)) ?_
      refine s_val rfl rfl (v_assign rfl rfl) ?_
      refine wpList_nil ?_
      refine ⟨gk6 - 1, _, by omega, rfl, i + 1, v56, cs' ++ cs2, by omega, hs0, hs4, hs5, rfl, rfl, ?_, ?_⟩
      · rw [rg_take, List.length_append, hG]
        exact cx
      · rw [rg_take, hG]
        exact PthsC.append _ _ _ _ hj0 hj1
    try simp only [bsl] at hc38
    refine wp_exit ?_
    refine wp_seq ?_
    refine wp_region_lit ?_
    refine s_val rfl rfl (v_move rfl hs7) ?_
    refine s_val rfl rfl (v_assign rfl rfl) ?_
    refine wpList_nil ?_
    refine wp_ret ?_
    refine ret_tmp Try.results59 rfl ?_
    have hi : i = a.list.length := by omega
    subst hi
    rw [hdf]
    exact ⟨cx.ext, cs', cx.head, hcs⟩
  have hll : lalike a b = false := hc33
  refine wp_skip ?_
  refine wp_seq ?_
  refine wp_region_lit ?_
  refine s_val rfl rfl (v_fa fa33_0 rfl rfl) ?_
  refine s_val rfl rfl (v_load1 rfl rfl Try.underlying3 rfl (cx.cell 1 rfl rfl)) ?_
  refine s_val rfl rfl (v_cmp rfl rfl rfl rfl) ?_
  refine s_val rfl rfl (v_move rfl rfl) ?_
  refine s_gval rfl rfl rfl wT (fun hc => v_fa fa33_0 rfl (by first | exact gve hc rfl | exact gve (and_l hc) rfl | exact gve (and_l (and_l hc)) rfl | rfl)) ?_
  refine s_gval rfl rfl rfl wT (fun hc => v_load1 rfl (by first | exact gve hc rfl | exact gve (and_l hc) rfl | exact gve (and_l (and_l hc)) rfl | rfl) Try.underlying3 rfl (cx.cell 0 rfl rfl)) ?_
  refine s_gval rfl rfl rfl wT (fun hc => v_cmp rfl (by first | exact gve hc rfl | exact gve (and_l hc) rfl | exact gve (and_l (and_l hc)) rfl | rfl) rfl rfl) ?_
  refine s_val rfl rfl (v_and rfl rfl rfl rfl) ?_
  refine s_val rfl rfl (v_move rfl rfl) ?_
  refine s_gval rfl rfl rfl wT (fun hc => v_fa fa33_7 rfl (by first | exact gve hc rfl | exact gve (and_l hc) rfl | exact gve (and_l (and_l hc)) rfl | rfl)) ?_
  refine s_gval rfl rfl rfl wT (fun hc => v_load1 rfl (by first | exact gve hc rfl | exact gve (and_l hc) rfl | exact gve (and_l (and_l hc)) rfl | rfl) Try.underlying31 rfl (cx.cell 1 rfl rfl)) ?_
  refine s_gval rfl rfl rfl wT (fun hc => v_lenSlice rfl (by first | exact gve hc rfl | exact gve (and_l hc) rfl | exact gve (and_l (and_l hc)) rfl | rfl) Try.underlying31) ?_
  refine s_gval rfl rfl rfl wT (fun hc => v_fa fa33_7 rfl (by first | exact gve hc rfl | exact gve (and_l hc) rfl | exact gve (and_l (and_l hc)) rfl | rfl)) ?_
  refine s_gval rfl rfl rfl wT (fun hc => v_load1 rfl (by first | exact gve hc rfl | exact gve (and_l hc) rfl | exact gve (and_l (and_l hc)) rfl | rfl) Try.underlying31 rfl (cx.cell 0 rfl rfl)) ?_
  refine s_gval rfl rfl rfl wT (fun hc => v_lenSlice rfl (by first | exact gve hc rfl | exact gve (and_l hc) rfl | exact gve (and_l (and_l hc)) rfl | rfl) Try.underlying31) ?_
  refine s_gval rfl rfl rfl wT (fun hc => v_cmp rfl (by first | exact gve hc rfl | exact gve (and_l hc) rfl | exact gve (and_l (and_l hc)) rfl | rfl) (by first | exact gve hc rfl | exact gve (and_l hc) rfl | exact gve (and_l (and_l hc)) rfl | rfl) rfl) ?_
  refine s_val rfl rfl (v_and rfl rfl rfl rfl) ?_
  refine s_val rfl rfl (v_assign rfl rfl) ?_
  refine wpList_nil ?_
  refine wp_seq ?_
  refine wp_seq ?_
  refine wp_region_lit ?_
  refine s_val rfl rfl (v_assign rfl rfl) ?_
  refine wpList_nil ?_
  refine wp_block ?_
  refine w_loop (fun k f w1 => ∃ i : Nat, k + i = a.fields.length ∧ f 0 = ps ∧ f 4 = .pointer (some ⟨b4, 0, none⟩) ∧ f 5 = .pointer (some ⟨b5, 0, none⟩) ∧ f 7 = .slice none 0 0 ∧ f 9 = .bool (a.sc.kind == 7 && b.sc.kind == 7 && (a.fields.length : Int) == (b.fields.length : Int) && (a.fields.take i).all (fun kv => (hasF kv.1 b.fields).isSome)) ∧ f 10 = .int .i64 i ∧ Cxr w0 w1 ((b5, .cells (vrow b.sc bbs (.slice ma b.list.length mc) (.slice ga b.fields.length gc)).toArray 33) :: (b4, .cells (vrow a.sc abs (.slice la a.list.length lc) (.slice fa a.fields.length fc)).toArray 33) :: []) [⟨24, 1, (.slice none 0 0), 0, []⟩]) (a.fields.length) ?_ ?_
  · skip
    exact ⟨0, by omega, rfl, rfl, rfl, rfl, by show Value.bool _ = _; simp, rfl, cx⟩
  intro gk12 f w hJ
  obtain ⟨i, hki, hs0, hs4, hs5, hs7, hs9, hs10, cx⟩ := hJ
  refine wp_seq ?_
  refine wp_seq ?_
  refine wp_region_lit ?_
  refine s_val rfl rfl (v_move rfl hs10) ?_
  refine s_val rfl rfl (v_fa fa33_7 rfl hs4) ?_
  refine s_val rfl rfl (v_load1 rfl rfl Try.underlying31 rfl (cx.cell 1 rfl rfl)) ?_
  refine s_val rfl rfl (v_lenSlice rfl rfl Try.underlying31) ?_
  refine s_val rfl rfl (v_cmp rfl rfl rfl rfl) ?_
  refine s_val rfl rfl (v_move rfl rfl) ?_
  refine s_gval rfl rfl rfl wT (fun hc => v_move rfl hs9) ?_
  refine s_val rfl rfl (v_and rfl rfl rfl rfl) ?_
  refine wpList_nil ?_
  refine c_split rfl (fun hc82 => ?_) (fun hc82 => ?_)
  · skip
    rw [Bool.and_eq_true] at hc82
    obtain ⟨hci, hcs9⟩ := hc82
    replace hci := of_decide_eq_true hci
    obtain rfl := hfa (by omega)
    obtain ⟨r, hr, hrv⟩ := hfget i a.fields[i] (List.getElem?_eq_getElem (by omega))
    have hrA := hfsl.inA (by omega)
    refine wp_skip ?_
    refine wp_seq ?_
    refine wp_block ?_
    refine w_ord cx (cx.pick2 1 0 rfl rfl rfl) mixed [(0, 86), (1, 87), (2, 88), (3, 89), (4, 90), (5, 91), (6, 92)] #[true, true, true, true, true, true, true, false, false, false, false, false] (by kernel_rfl) (by kernel_rfl) (by kernel_rfl) (by kernel_rfl) ?_
    refine pu_one rfl (wnt_none rfl) (fun w cx => v_load rfl hs5 Try.underlying33 rfl sz33 (cx.row 1 rfl) rfl) ?_
    refine pu_one rfl (wnt_none rfl) (fun w cx => v_fa fa33_7 rfl hs4) ?_
    refine pu_one rfl (wnt_none rfl) (fun w cx => v_load1 rfl rfl Try.underlying31 rfl (cx.cell 0 rfl rfl)) ?_
    refine pu_one rfl (wnt_none rfl) (fun w cx => v_move rfl hs10) ?_
    refine pu_one rfl (wnt_none rfl) (fun w cx => v_ia Try.underlying31 sz77 rfl rfl rfl (by omega) (by omega)) ?_
    refine pu_one rfl (wnt_none rfl) (fun w cx => v_fa fa77_0 rfl rfl) ?_
    refine pu_one rfl (wnt_none rfl) (fun w cx => v_load1 rfl rfl Try.underlying9 rfl ((hr.keep (cx.ext.block _ (hA _ hrA))).cell 0 rfl)) ?_
    refine pu_nil ?_; intro w cx hwD14
    refine x_one (i := 7) (by kernel_rfl) rfl ?_
    refine s_fn cx (c86 A b _ a.fields[i].1 _ (fun b hb => Nat.lt_of_lt_of_le (hA b hb) cx.ext.size) (RepV.mono (fun _ h => h) (fun b hb => cx.ext.block b (hA b hb)) _ _ hvb) hbfl) Try.func86 rfl rfl rfl rfl rfl rfl ?_; intro q93 w cx hw93 hp93
    obtain ⟨l93, rfl, hm93⟩ := hp93
    refine x_next ⟨.inr (by kernel_rfl), ?_⟩
    refine x_one (i := 8) (by kernel_rfl) rfl ?_
    refine s_val rfl rfl (v_move rfl rfl) ?_
    refine x_next ⟨.inr (by kernel_rfl), ?_⟩
    refine x_two (i := 9) (j := 10) (by kernel_rfl) rfl rfl ?_ ?_
    · skip
      refine s_val rfl rfl (v_extract rfl rfl rfl) ?_
      refine x_next ⟨.inr (by kernel_rfl), ?_⟩
      refine x_one (i := 10) (by kernel_rfl) rfl ?_
      refine s_val rfl rfl (v_extract rfl rfl rfl) ?_
      refine x_next ⟨.inr (by kernel_rfl), ?_⟩
      refine x_one (i := 11) (by kernel_rfl) rfl ?_
      refine s_val rfl rfl (v_assign rfl rfl) ?_
      refine x_next ⟨.inr (by kernel_rfl), ?_⟩
      refine x_done (by kernel_rfl) ?_
      refine wp_region_lit ?_
      refine s_val rfl rfl (v_move rfl hs10) ?_
      refine s_val rfl rfl (v_add rfl rfl rfl (by omega) (by omega)) ?_
      refine s_val rfl rfl (v_assign rfl rfl) ?_
      refine wpList_nil ?_
      refine ⟨gk12 - 1, _, by omega, rfl, i + 1, by omega, hs0, hs4, hs5, hs7, ?_, rfl, cx⟩
      rw [List.take_succ_eq_append_getElem (by omega), List.all_append]
      show Value.bool _ = _
      rw [← Bool.and_assoc, hcs9]
      simp
    refine s_val rfl rfl (v_extract rfl rfl rfl) ?_
    refine x_next ⟨.inr (by kernel_rfl), ?_⟩
    refine x_one (i := 9) (by kernel_rfl) rfl ?_
    refine s_val rfl rfl (v_extract rfl rfl rfl) ?_
    refine x_next ⟨.inr (by kernel_rfl), ?_⟩
    refine x_one (i := 11) (by kernel_rfl) rfl ?_
    refine s_val rfl rfl (v_assign rfl rfl) ?_
    refine x_next ⟨.inr (by kernel_rfl), ?_⟩
    refine x_done (by kernel_rfl) ?_
    refine wp_region_lit ?_
    refine s_val rfl rfl (v_move rfl hs10) ?_
    refine s_val rfl rfl (v_add rfl rfl rfl (by omega) (by omega)) ?_
    refine s_val rfl rfl (v_assign rfl rfl) ?_
    refine wpList_nil ?_
    refine ⟨gk12 - 1, _, by omega, rfl, i + 1, by omega, hs0, hs4, hs5, hs7, ?_, rfl, cx⟩
    rw [List.take_succ_eq_append_getElem (by omega), List.all_append]
    show Value.bool _ = _
    rw [← Bool.and_assoc, hcs9]
    simp
  have hsal : (a.sc.kind == 7 && b.sc.kind == 7 && (a.fields.length : Int) == (b.fields.length : Int) && (a.fields.take i).all fun kv => (hasF kv.1 b.fields).isSome) = alike a b := by
    unfold alike
    rcases Bool.and_eq_false_iff.1 hc82 with h | h
    · replace h := of_decide_eq_false h
      rw [List.take_of_length_le (by omega)]
    · rw [h]
      symm
      rw [Bool.eq_false_iff]
      intro h2
      rw [Bool.and_eq_true] at h2
      rw [h2.1, Bool.true_and] at h
      have h3 : (a.fields.take i).all (fun kv => (hasF kv.1 b.fields).isSome) = true := List.all_eq_true.2 fun kv hk => List.all_eq_true.1 h2.2 kv (List.mem_of_mem_take hk)
      rw [h3] at h; cases h
  rw [hsal] at hs9
  refine wp_exit ?_
  refine wp_seq ?_
  refine wp_seq ?_
  refine wp_region_lit ?_
  refine s_val rfl rfl (v_move rfl hs9) ?_
  refine s_val rfl rfl (v_not rfl rfl) ?_
  refine wpList_nil ?_
  refine c_split rfl (fun hc97 => ?_) (fun hc97 => ?_)
  · skip
    have hal : alike a b = false := by simpa using hc97
    refine wp_seq ?_
    refine wp_region_lit ?_
    refine s_val rfl rfl (v_move rfl hs0) ?_
    obtain ⟨_, _, hslp, _⟩ := id hpp
    obtain ⟨pa, pc, rfl, _⟩ := hslp.form
    refine s_bsl1 cx Try.underlying46 sz24 z24 rfl rfl rfl rfl rfl rfl rfl rfl ?_; intro b99 w cx hb99 hw99
    refine s_val rfl rfl (v_assign rfl rfl) ?_
    refine wpList_nil ?_
    refine wp_ret ?_
    refine ret_tmp Try.results59 rfl ?_
    have hd1 : dfr E (d + 1) p a b = [p] := by
      simp only [dfr]
      rw [if_neg (fun h => hne ((hE a b).1 h)), if_neg (by rw [hal]; simp), if_neg (by rw [hll]; simp)]
    rw [hd1]
    replace cx := cx.toRow (k := 1) (size := 1) rfl (by decide)
    refine ⟨cx.ext, _, cx.head, ?_, trivial⟩
    refine hpp.mono (fun b hb => ⟨.inl hb, fun e => ?_⟩) (fun b hb => cx.ext.block b (hA b hb))
    have := (Made_lt cx.head b e).1; have := hA b hb; omega
  have hal : alike a b = true := by simpa using hc97
  have hdf : dfr E (d + 1) p a b = a.fields.flatMap (fun kv : ByteArray × V => dfr E d (p ++ [keyS kv.1]) kv.2 ((hasF kv.1 b.fields).getD nulV)) := by
    simp only [dfr]; rw [if_neg (fun h => hne ((hE a b).1 h)), if_pos hal]
  rw [hdf] at hnb
  refine wp_skip ?_
  refine wp_seq ?_
  refine wp_seq ?_
  refine wp_region_lit ?_
  refine s_val rfl rfl (v_assign rfl rfl) ?_
  refine wpList_nil ?_
  refine wp_block ?_
  refine w_loop (fun k f w1 => ∃ (i : Nat) (x : Value) (cs' : List Value), k + i = a.fields.length ∧ f 0 = ps ∧ f 4 = .pointer (some ⟨b4, 0, none⟩) ∧ f 5 = .pointer (some ⟨b5, 0, none⟩) ∧ f 7 = x ∧ f 11 = .int .i64 i ∧ Cxr w0 w1 ((b5, .cells (vrow b.sc bbs (.slice ma b.list.length mc) (.slice ga b.fields.length gc)).toArray 33) :: (b4, .cells (vrow a.sc abs (.slice la a.list.length lc) (.slice fa a.fields.length fc)).toArray 33) :: []) [⟨24, 1, x, ((a.fields.take i).flatMap (fun kv : ByteArray × V => dfr E d (p ++ [keyS kv.1]) kv.2 ((hasF kv.1 b.fields).getD nulV))).length, cs'⟩] ∧ PthsC (Ca A w0 w1 x) w1 ((a.fields.take i).flatMap (fun kv : ByteArray × V => dfr E d (p ++ [keyS kv.1]) kv.2 ((hasF kv.1 b.fields).getD nulV))) cs') (a.fields.length) ?_ ?_
  · skip
    exact ⟨0, _, [], by omega, hs0, hs4, hs5, hs7, rfl, cx, trivial⟩
  intro gk18 f w hJ
  obtain ⟨i, x, cs', hki, hs0, hs4, hs5, hs7, hs11, cx, hcs⟩ := hJ
  refine wp_seq ?_
  refine wp_seq ?_
  refine wp_region_lit ?_
  refine s_val rfl rfl (v_move rfl hs11) ?_
  refine s_val rfl rfl (v_fa fa33_7 rfl hs4) ?_
  refine s_val rfl rfl (v_load1 rfl rfl Try.underlying31 rfl (cx.cell 1 rfl rfl)) ?_
  refine s_val rfl rfl (v_lenSlice rfl rfl Try.underlying31) ?_
  refine s_val rfl rfl (v_cmp rfl rfl rfl rfl) ?_
  refine wpList_nil ?_
  refine c_split rfl (fun hc104 => ?_) (fun hc104 => ?_)
  · skip
    try simp only [bsl] at hc104
    obtain rfl := hfa (by omega)
    obtain ⟨r, hr, hrv⟩ := hfget i a.fields[i] (List.getElem?_eq_getElem (by omega))
    have hrA := hfsl.inA (by omega)
    have hkm : a.fields[i] ∈ a.fields := List.getElem_mem _
    have hbl := fm_len (g := (fun kv : ByteArray × V => dfr E d (p ++ [keyS kv.1]) kv.2 ((hasF kv.1 b.fields).getD nulV))) (show i < a.fields.length by omega)
    have hsome : (hasF a.fields[i].1 b.fields).isSome = true := by
      unfold alike at hal
      simp only [Bool.and_eq_true, List.all_eq_true] at hal
      exact hal.2 _ hkm
    obtain ⟨u, hu⟩ : ∃ u, hasF a.fields[i].1 b.fields = some u := Option.isSome_iff_exists.1 hsome
    simp only [hu, Option.getD_some] at hbl
    have hQ := Kp.d0 w x
    obtain ⟨wk0, rfl⟩ : ∃ y, y = w := ⟨_, rfl⟩
    have hk00 := cx.ext.size
    refine wp_skip ?_
    refine wp_seq ?_
    refine wp_block ?_
    refine w_cut (fun f w1 => ∃ (b12 : Nat) (l12 : List Value), f 0 = ps ∧ f 4 = .pointer (some ⟨b4, 0, none⟩) ∧ f 5 = .pointer (some ⟨b5, 0, none⟩) ∧ f 7 = x ∧ f 11 = .int .i64 i ∧ f 12 = .pointer (some ⟨b12, 0, none⟩) ∧ RepV A w0 u l12 ∧ Cxr w0 w1 ((b12, .cells l12.toArray 33) :: ((b5, .cells (vrow b.sc bbs (.slice ma b.list.length mc) (.slice ga b.fields.length gc)).toArray 33) :: (b4, .cells (vrow a.sc abs (.slice la a.list.length lc) (.slice (some ⟨fb, fo, none⟩) a.fields.length fc)).toArray 33) :: [])) [⟨24, 1, x, ((a.fields.take i).flatMap (fun kv : ByteArray × V => dfr E d (p ++ [keyS kv.1]) kv.2 ((hasF kv.1 b.fields).getD nulV))).length, cs'⟩] ∧ PthsC (Ca A w0 w1 x) w1 ((a.fields.take i).flatMap (fun kv : ByteArray × V => dfr E d (p ++ [keyS kv.1]) kv.2 ((hasF kv.1 b.fields).getD nulV))) cs') ?_ ?_
    · skip
      refine w_ord cx (cx.pick2 1 0 rfl rfl rfl) mixed [(0, 108), (1, 109), (2, 110), (3, 111), (4, 112), (5, 113), (6, 114)] #[true, true, true, true, true, true, true, false, false, false, false, false, false, false] (by kernel_rfl) (by kernel_rfl) (by kernel_rfl) (by kernel_rfl) ?_
      refine pu_one rfl (wnt_none rfl) (fun w cx => v_load rfl hs5 Try.underlying33 rfl sz33 (cx.row 1 rfl) rfl) ?_
      refine pu_one rfl (wnt_none rfl) (fun w cx => v_fa fa33_7 rfl hs4) ?_
      refine pu_one rfl (wnt_none rfl) (fun w cx => v_load1 rfl rfl Try.underlying31 rfl (cx.cell 0 rfl rfl)) ?_
      refine pu_one rfl (wnt_none rfl) (fun w cx => v_move rfl hs11) ?_
      refine pu_one rfl (wnt_none rfl) (fun w cx => v_ia Try.underlying31 sz77 rfl rfl rfl (by omega) (by omega)) ?_
      refine pu_one rfl (wnt_none rfl) (fun w cx => v_fa fa77_0 rfl rfl) ?_
      refine pu_one rfl (wnt_none rfl) (fun w cx => v_load1 rfl rfl Try.underlying9 rfl ((hr.keep (cx.ext.block _ (hA _ hrA))).cell 0 rfl)) ?_
      refine pu_nil ?_; intro w cx hwD20
      replace hQ := hQ.below hwD20
      refine x_two (i := 7) (j := 11) (by kernel_rfl) rfl rfl ?_ ?_
      · skip
        refine s_fn cx (c86 A b _ a.fields[i].1 _ (fun b hb => Nat.lt_of_lt_of_le (hA b hb) cx.ext.size) (RepV.mono (fun _ h => h) (fun b hb => cx.ext.block b (hA b hb)) _ _ hvb) hbfl) Try.func86 rfl rfl rfl rfl rfl rfl ?_; intro q115 w cx hw115 hp115
        obtain ⟨l115, rfl, hm115⟩ := hp115
        replace hQ := hQ.below hw115
        rw [hu] at hm115
        replace hm115 : RepV A w0 u l115 := RepV.mono (fun _ h => h) (fun b hb => (cx.ext.block b (hA b hb)).symm) _ _ hm115
        refine x_next ⟨.inr (by kernel_rfl), ?_⟩
        refine x_two (i := 8) (j := 11) (by kernel_rfl) rfl rfl ?_ ?_
        · skip
          refine s_val rfl rfl (v_move rfl rfl) ?_
          refine x_next ⟨.inr (by kernel_rfl), ?_⟩
          refine x_three (i := 9) (j := 10) (m := 11) (by kernel_rfl) rfl rfl rfl ?_ ?_ ?_
          · skip
            refine s_val rfl rfl (v_extract rfl rfl rfl) ?_
            refine x_next ⟨.inr (by kernel_rfl), ?_⟩
            refine x_two (i := 10) (j := 11) (by kernel_rfl) rfl rfl ?_ ?_
            · skip
              refine s_val rfl rfl (v_extract rfl rfl rfl) ?_
              refine x_next ⟨.inr (by kernel_rfl), ?_⟩
              refine x_one (i := 11) (by kernel_rfl) rfl ?_
              have hs12 := hQ.sz
              refine s_alloc cx z33 rfl rfl rfl ?_; intro b12 w cx hb12 hw12
              replace hQ := hQ.below hw12
              have hl12 : wk0.heap.size ≤ b12 := Nat.le_trans hs12 (Nat.le_of_eq hb12)
              refine x_next ⟨.inl (cx.pick2 2 1 rfl rfl rfl), ?_⟩
              refine x_one (i := 12) (by kernel_rfl) rfl ?_
              refine s_storeAllG cx 0 rfl rfl rfl rfl rfl rfl (by rw [hm115.len]; exact sz33) (by rw [hm115.len]; rfl) hm115.one ?_; intro w cx hg12
              replace hQ := hQ.later hg12 hl12
              refine x_next ⟨.inr (by kernel_rfl), ?_⟩
              refine x_one (i := 13) (by kernel_rfl) rfl ?_
              refine s_val rfl rfl (v_assign rfl rfl) ?_
              refine x_next ⟨.inr (by kernel_rfl), ?_⟩
              refine x_done (by kernel_rfl) ?_
              exact ⟨_, rfl, b12, l115, hs0, hs4, hs5, hs7, hs11, rfl, hm115, cx, PthsC.mono (fun b hb => Ca.next hA hk00 hQ.sz (Nx.self _ _) b hb) (fun b hb => hQ.kp b (Ca.d0 hA hk00 b hb)) _ _ hcs⟩
            have hs12 := hQ.sz
            refine s_alloc cx z33 rfl rfl rfl ?_; intro b12 w cx hb12 hw12
            replace hQ := hQ.below hw12
            have hl12 : wk0.heap.size ≤ b12 := Nat.le_trans hs12 (Nat.le_of_eq hb12)
            refine x_next ⟨.inl (cx.pick2 2 1 rfl rfl rfl), ?_⟩
            refine x_two (i := 10) (j := 12) (by kernel_rfl) rfl rfl ?_ ?_
            · skip
              refine s_val rfl rfl (v_extract rfl rfl rfl) ?_
              refine x_next ⟨.inr (by kernel_rfl), ?_⟩
              refine x_one (i := 12) (by kernel_rfl) rfl ?_
              refine s_storeAllG cx 0 rfl rfl rfl rfl rfl rfl (by rw [hm115.len]; exact sz33) (by rw [hm115.len]; rfl) hm115.one ?_; intro w cx hg12
              replace hQ := hQ.later hg12 hl12
              refine x_next ⟨.inr (by kernel_rfl), ?_⟩
              refine x_one (i := 13) (by kernel_rfl) rfl ?_
              refine s_val rfl rfl (v_assign rfl rfl) ?_
              refine x_next ⟨.inr (by kernel_rfl), ?_⟩
              refine x_done (by kernel_rfl) ?_
              exact ⟨_, rfl, b12, l115, hs0, hs4, hs5, hs7, hs11, rfl, hm115, cx, PthsC.mono (fun b hb => Ca.next hA hk00 hQ.sz (Nx.self _ _) b hb) (fun b hb => hQ.kp b (Ca.d0 hA hk00 b hb)) _ _ hcs⟩
            refine s_storeAllG cx 0 rfl rfl rfl rfl rfl rfl (by rw [hm115.len]; exact sz33) (by rw [hm115.len]; rfl) hm115.one ?_; intro w cx hg12
            replace hQ := hQ.later hg12 hl12
            refine x_next ⟨.inr (by kernel_rfl), ?_⟩
            refine x_one (i := 10) (by kernel_rfl) rfl ?_
            refine s_val rfl rfl (v_extract rfl rfl rfl) ?_
            refine x_next ⟨.inr (by kernel_rfl), ?_⟩
            refine x_one (i := 13) (by kernel_rfl) rfl ?_
            refine s_val rfl rfl (v_assign rfl rfl) ?_
            refine x_next ⟨.inr (by kernel_rfl), ?_⟩
            refine x_done (by kernel_rfl) ?_
            exact ⟨_, rfl, b12, l115, hs0, hs4, hs5, hs7, hs11, rfl, hm115, cx, PthsC.mono (fun b hb => Ca.next hA hk00 hQ.sz (Nx.self _ _) b hb) (fun b hb => hQ.kp b (Ca.d0 hA hk00 b hb)) _ _ hcs⟩
          · skip
            refine s_val rfl rfl (v_extract rfl rfl rfl) ?_
            refine x_next ⟨.inr (by kernel_rfl), ?_⟩
            refine x_two (i := 9) (j := 11) (by kernel_rfl) rfl rfl ?_ ?_
            · skip
              refine s_val rfl rfl (v_extract rfl rfl rfl) ?_
              refine x_next ⟨.inr (by kernel_rfl), ?_⟩
              refine x_one (i := 11) (by kernel_rfl) rfl ?_
              have hs12 := hQ.sz
              refine s_alloc cx z33 rfl rfl rfl ?_; intro b12 w cx hb12 hw12
              replace hQ := hQ.below hw12
              have hl12 : wk0.heap.size ≤ b12 := Nat.le_trans hs12 (Nat.le_of_eq hb12)
              refine x_next ⟨.inl (cx.pick2 2 1 rfl rfl rfl), ?_⟩
              refine x_one (i := 12) (by kernel_rfl) rfl ?_
              refine s_storeAllG cx 0 rfl rfl rfl rfl rfl rfl (by rw [hm115.len]; exact sz33) (by rw [hm115.len]; rfl) hm115.one ?_; intro w cx hg12
              replace hQ := hQ.later hg12 hl12
              refine x_next ⟨.inr (by kernel_rfl), ?_⟩
              refine x_one (i := 13) (by kernel_rfl) rfl ?_
              refine s_val rfl rfl (v_assign rfl rfl) ?_
              refine x_next ⟨.inr (by kernel_rfl), ?_⟩
              refine x_done (by kernel_rfl) ?_
              exact ⟨_, rfl, b12, l115, hs0, hs4, hs5, hs7, hs11, rfl, hm115, cx, PthsC.mono (fun b hb => Ca.next hA hk00 hQ.sz (Nx.self _ _) b hb) (fun b hb => hQ.kp b (Ca.d0 hA hk00 b hb)) _ _ hcs⟩
            have hs12 := hQ.sz
            refine s_alloc cx z33 rfl rfl rfl ?_; intro b12 w cx hb12 hw12
            replace hQ := hQ.below hw12
            have hl12 : wk0.heap.size ≤ b12 := Nat.le_trans hs12 (Nat.le_of_eq hb12)
            refine x_next ⟨.inl (cx.pick2 2 1 rfl rfl rfl), ?_⟩
            refine x_one (i := 9) (by kernel_rfl) rfl ?_
            refine s_val rfl rfl (v_extract rfl rfl rfl) ?_
            refine x_next ⟨.inr (by kernel_rfl), ?_⟩
            refine x_one (i := 12) (by kernel_rfl) rfl ?_
            refine s_storeAllG cx 0 rfl rfl rfl rfl rfl rfl (by rw [hm115.len]; exact sz33) (by rw [hm115.len]; rfl) hm115.one ?_; intro w cx hg12
            replace hQ := hQ.later hg12 hl12
            refine x_next ⟨.inr (by kernel_rfl), ?_⟩
            refine x_one (i := 13) (by kernel_rfl) rfl ?_
            refine s_val rfl rfl (v_assign rfl rfl) ?_
            refine x_next ⟨.inr (by kernel_rfl), ?_⟩
            refine x_done (by kernel_rfl) ?_
            exact ⟨_, rfl, b12, l115, hs0, hs4, hs5, hs7, hs11, rfl, hm115, cx, PthsC.mono (fun b hb => Ca.next hA hk00 hQ.sz (Nx.self _ _) b hb) (fun b hb => hQ.kp b (Ca.d0 hA hk00 b hb)) _ _ hcs⟩
          have hs12 := hQ.sz
          refine s_alloc cx z33 rfl rfl rfl ?_; intro b12 w cx hb12 hw12
          replace hQ := hQ.below hw12
          have hl12 : wk0.heap.size ≤ b12 := Nat.le_trans hs12 (Nat.le_of_eq hb12)
          refine x_next ⟨.inl (cx.pick2 2 1 rfl rfl rfl), ?_⟩
          refine x_two (i := 9) (j := 10) (by kernel_rfl) rfl rfl ?_ ?_
          · skip
            refine s_val rfl rfl (v_extract rfl rfl rfl) ?_
            refine x_next ⟨.inr (by kernel_rfl), ?_⟩
            refine x_two (i := 10) (j := 12) (by kernel_rfl) rfl rfl ?_ ?_
            · skip
              refine s_val rfl rfl (v_extract rfl rfl rfl) ?_
              refine x_next ⟨.inr (by kernel_rfl), ?_⟩
              refine x_one (i := 12) (by kernel_rfl) rfl ?_
              refine s_storeAllG cx 0 rfl rfl rfl rfl rfl rfl (by rw [hm115.len]; exact sz33) (by rw [hm115.len]; rfl) hm115.one ?_; intro w cx hg12
              replace hQ := hQ.later hg12 hl12
              refine x_next ⟨.inr (by kernel_rfl), ?_⟩
              refine x_one (i := 13) (by kernel_rfl) rfl ?_
              refine s_val rfl rfl (v_assign rfl rfl) ?_
              refine x_next ⟨.inr (by kernel_rfl), ?_⟩
              refine x_done (by kernel_rfl) ?_
              exact ⟨_, rfl, b12, l115, hs0, hs4, hs5, hs7, hs11, rfl, hm115, cx, PthsC.mono (fun b hb => Ca.next hA hk00 hQ.sz (Nx.self _ _) b hb) (fun b hb => hQ.kp b (Ca.d0 hA hk00 b hb)) _ _ hcs⟩
            refine s_storeAllG cx 0 rfl rfl rfl rfl rfl rfl (by rw [hm115.len]; exact sz33) (by rw [hm115.len]; rfl) hm115.one ?_; intro w cx hg12
            replace hQ := hQ.later hg12 hl12
            refine x_next ⟨.inr (by kernel_rfl), ?_⟩
            refine x_one (i := 10) (by kernel_rfl) rfl ?_
            refine s_val rfl rfl (v_extract rfl rfl rfl) ?_
            refine x_next ⟨.inr (by kernel_rfl), ?_⟩
            refine x_one (i := 13) (by kernel_rfl) rfl ?_
            refine s_val rfl rfl (v_assign rfl rfl) ?_
            refine x_next ⟨.inr (by kernel_rfl), ?_⟩
            refine x_done (by kernel_rfl) ?_
            exact ⟨_, rfl, b12, l115, hs0, hs4, hs5, hs7, hs11, rfl, hm115, cx, PthsC.mono (fun b hb => Ca.next hA hk00 hQ.sz (Nx.self _ _) b hb) (fun b hb => hQ.kp b (Ca.d0 hA hk00 b hb)) _ _ hcs⟩
          refine s_val rfl rfl (v_extract rfl rfl rfl) ?_
          refine x_next ⟨.inr (by kernel_rfl), ?_⟩
          refine x_one (i := 9) (by kernel_rfl) rfl ?_
          refine s_val rfl rfl (v_extract rfl rfl rfl) ?_
          refine x_next ⟨.inr (by kernel_rfl), ?_⟩
          refine x_one (i := 12) (by kernel_rfl) rfl ?_
          refine s_storeAllG cx 0 rfl rfl rfl rfl rfl rfl (by rw [hm115.len]; exact sz33) (by rw [hm115.len]; rfl) hm115.one ?_; intro w cx hg12
          replace hQ := hQ.later hg12 hl12
          refine x_next ⟨.inr (by kernel_rfl), ?_⟩
          refine x_one (i := 13) (by kernel_rfl) rfl ?_
          refine s_val rfl rfl (v_assign rfl rfl) ?_
          refine x_next ⟨.inr (by kernel_rfl), ?_⟩
          refine x_done (by kernel_rfl) ?_
          exact ⟨_, rfl, b12, l115, hs0, hs4, hs5, hs7, hs11, rfl, hm115, cx, PthsC.mono (fun b hb => Ca.next hA hk00 hQ.sz (Nx.self _ _) b hb) (fun b hb => hQ.kp b (Ca.d0 hA hk00 b hb)) _ _ hcs⟩
        have hs12 := hQ.sz
        refine s_alloc cx z33 rfl rfl rfl ?_; intro b12 w cx hb12 hw12
        replace hQ := hQ.below hw12
        have hl12 : wk0.heap.size ≤ b12 := Nat.le_trans hs12 (Nat.le_of_eq hb12)
        refine x_next ⟨.inl (cx.pick2 2 1 rfl rfl rfl), ?_⟩
        refine x_one (i := 8) (by kernel_rfl) rfl ?_
        refine s_val rfl rfl (v_move rfl rfl) ?_
        refine x_next ⟨.inr (by kernel_rfl), ?_⟩
        refine x_two (i := 9) (j := 10) (by kernel_rfl) rfl rfl ?_ ?_
        · skip
          refine s_val rfl rfl (v_extract rfl rfl rfl) ?_
          refine x_next ⟨.inr (by kernel_rfl), ?_⟩
          refine x_two (i := 10) (j := 12) (by kernel_rfl) rfl rfl ?_ ?_
          · skip
            refine s_val rfl rfl (v_extract rfl rfl rfl) ?_
            refine x_next ⟨.inr (by kernel_rfl), ?_⟩
            refine x_one (i := 12) (by kernel_rfl) rfl ?_
            refine s_storeAllG cx 0 rfl rfl rfl rfl rfl rfl (by rw [hm115.len]; exact sz33) (by rw [hm115.len]; rfl) hm115.one ?_; intro w cx hg12
            replace hQ := hQ.later hg12 hl12
            refine x_next ⟨.inr (by kernel_rfl), ?_⟩
            refine x_one (i := 13) (by kernel_rfl) rfl ?_
            refine s_val rfl rfl (v_assign rfl rfl) ?_
            refine x_next ⟨.inr (by kernel_rfl), ?_⟩
            refine x_done (by kernel_rfl) ?_
            exact ⟨_, rfl, b12, l115, hs0, hs4, hs5, hs7, hs11, rfl, hm115, cx, PthsC.mono (fun b hb => Ca.next hA hk00 hQ.sz (Nx.self _ _) b hb) (fun b hb => hQ.kp b (Ca.d0 hA hk00 b hb)) _ _ hcs⟩
          refine s_storeAllG cx 0 rfl rfl rfl rfl rfl rfl (by rw [hm115.len]; exact sz33) (by rw [hm115.len]; rfl) hm115.one ?_; intro w cx hg12
          replace hQ := hQ.later hg12 hl12
          refine x_next ⟨.inr (by kernel_rfl), ?_⟩
          refine x_one (i := 10) (by kernel_rfl) rfl ?_
          refine s_val rfl rfl (v_extract rfl rfl rfl) ?_
          refine x_next ⟨.inr (by kernel_rfl), ?_⟩
          refine x_one (i := 13) (by kernel_rfl) rfl ?_
          refine s_val rfl rfl (v_assign rfl rfl) ?_
          refine x_next ⟨.inr (by kernel_rfl), ?_⟩
          refine x_done (by kernel_rfl) ?_
          exact ⟨_, rfl, b12, l115, hs0, hs4, hs5, hs7, hs11, rfl, hm115, cx, PthsC.mono (fun b hb => Ca.next hA hk00 hQ.sz (Nx.self _ _) b hb) (fun b hb => hQ.kp b (Ca.d0 hA hk00 b hb)) _ _ hcs⟩
        refine s_val rfl rfl (v_extract rfl rfl rfl) ?_
        refine x_next ⟨.inr (by kernel_rfl), ?_⟩
        refine x_one (i := 9) (by kernel_rfl) rfl ?_
        refine s_val rfl rfl (v_extract rfl rfl rfl) ?_
        refine x_next ⟨.inr (by kernel_rfl), ?_⟩
        refine x_one (i := 12) (by kernel_rfl) rfl ?_
        refine s_storeAllG cx 0 rfl rfl rfl rfl rfl rfl (by rw [hm115.len]; exact sz33) (by rw [hm115.len]; rfl) hm115.one ?_; intro w cx hg12
        replace hQ := hQ.later hg12 hl12
        refine x_next ⟨.inr (by kernel_rfl), ?_⟩
        refine x_one (i := 13) (by kernel_rfl) rfl ?_
        refine s_val rfl rfl (v_assign rfl rfl) ?_
        refine x_next ⟨.inr (by kernel_rfl), ?_⟩
        refine x_done (by kernel_rfl) ?_
        exact ⟨_, rfl, b12, l115, hs0, hs4, hs5, hs7, hs11, rfl, hm115, cx, PthsC.mono (fun b hb => Ca.next hA hk00 hQ.sz (Nx.self _ _) b hb) (fun b hb => hQ.kp b (Ca.d0 hA hk00 b hb)) _ _ hcs⟩
      have hs12 := hQ.sz
      refine s_alloc cx z33 rfl rfl rfl ?_; intro b12 w cx hb12 hw12
      replace hQ := hQ.below hw12
      have hl12 : wk0.heap.size ≤ b12 := Nat.le_trans hs12 (Nat.le_of_eq hb12)
      refine x_next ⟨.inl (cx.pick2 2 1 rfl rfl rfl), ?_⟩
      refine x_one (i := 7) (by kernel_rfl) rfl ?_
      refine s_fn cx (c86 A b _ a.fields[i].1 _ (fun b hb => Nat.lt_of_lt_of_le (hA b hb) cx.ext.size) (RepV.mono (fun _ h => h) (fun b hb => cx.ext.block b (hA b hb)) _ _ hvb) hbfl) Try.func86 rfl rfl rfl rfl rfl rfl ?_; intro q115 w cx hw115 hp115
      obtain ⟨l115, rfl, hm115⟩ := hp115
      replace hQ := hQ.below hw115
      rw [hu] at hm115
      replace hm115 : RepV A w0 u l115 := RepV.mono (fun _ h => h) (fun b hb => (cx.ext.block b (hA b hb)).symm) _ _ hm115
      refine x_next ⟨.inr (by kernel_rfl), ?_⟩
      refine x_one (i := 8) (by kernel_rfl) rfl ?_
      refine s_val rfl rfl (v_move rfl rfl) ?_
      refine x_next ⟨.inr (by kernel_rfl), ?_⟩
      refine x_two (i := 9) (j := 10) (by kernel_rfl) rfl rfl ?_ ?_
      · skip
        refine s_val rfl rfl (v_extract rfl rfl rfl) ?_
        refine x_next ⟨.inr (by kernel_rfl), ?_⟩
        refine x_two (i := 10) (j := 12) (by kernel_rfl) rfl rfl ?_ ?_
        · skip
          refine s_val rfl rfl (v_extract rfl rfl rfl) ?_
          refine x_next ⟨.inr (by kernel_rfl), ?_⟩
          refine x_one (i := 12) (by kernel_rfl) rfl ?_
          refine s_storeAllG cx 0 rfl rfl rfl rfl rfl rfl (by rw [hm115.len]; exact sz33) (by rw [hm115.len]; rfl) hm115.one ?_; intro w cx hg12
          replace hQ := hQ.later hg12 hl12
          refine x_next ⟨.inr (by kernel_rfl), ?_⟩
          refine x_one (i := 13) (by kernel_rfl) rfl ?_
          refine s_val rfl rfl (v_assign rfl rfl) ?_
          refine x_next ⟨.inr (by kernel_rfl), ?_⟩
          refine x_done (by kernel_rfl) ?_
          exact ⟨_, rfl, b12, l115, hs0, hs4, hs5, hs7, hs11, rfl, hm115, cx, PthsC.mono (fun b hb => Ca.next hA hk00 hQ.sz (Nx.self _ _) b hb) (fun b hb => hQ.kp b (Ca.d0 hA hk00 b hb)) _ _ hcs⟩
        refine s_storeAllG cx 0 rfl rfl rfl rfl rfl rfl (by rw [hm115.len]; exact sz33) (by rw [hm115.len]; rfl) hm115.one ?_; intro w cx hg12
        replace hQ := hQ.later hg12 hl12
        refine x_next ⟨.inr (by kernel_rfl), ?_⟩
        refine x_one (i := 10) (by kernel_rfl) rfl ?_
        refine s_val rfl rfl (v_extract rfl rfl rfl) ?_
        refine x_next ⟨.inr (by kernel_rfl), ?_⟩
        refine x_one (i := 13) (by kernel_rfl) rfl ?_
        refine s_val rfl rfl (v_assign rfl rfl) ?_
        refine x_next ⟨.inr (by kernel_rfl), ?_⟩
        refine x_done (by kernel_rfl) ?_
        exact ⟨_, rfl, b12, l115, hs0, hs4, hs5, hs7, hs11, rfl, hm115, cx, PthsC.mono (fun b hb => Ca.next hA hk00 hQ.sz (Nx.self _ _) b hb) (fun b hb => hQ.kp b (Ca.d0 hA hk00 b hb)) _ _ hcs⟩
      refine s_val rfl rfl (v_extract rfl rfl rfl) ?_
      refine x_next ⟨.inr (by kernel_rfl), ?_⟩
      refine x_one (i := 9) (by kernel_rfl) rfl ?_
      refine s_val rfl rfl (v_extract rfl rfl rfl) ?_
      refine x_next ⟨.inr (by kernel_rfl), ?_⟩
      refine x_one (i := 12) (by kernel_rfl) rfl ?_
      refine s_storeAllG cx 0 rfl rfl rfl rfl rfl rfl (by rw [hm115.len]; exact sz33) (by rw [hm115.len]; rfl) hm115.one ?_; intro w cx hg12
      replace hQ := hQ.later hg12 hl12
      refine x_next ⟨.inr (by kernel_rfl), ?_⟩
      refine x_one (i := 13) (by kernel_rfl) rfl ?_
      refine s_val rfl rfl (v_assign rfl rfl) ?_
      refine x_next ⟨.inr (by kernel_rfl), ?_⟩
      refine x_done (by kernel_rfl) ?_
      exact ⟨_, rfl, b12, l115, hs0, hs4, hs5, hs7, hs11, rfl, hm115, cx, PthsC.mono (fun b hb => Ca.next hA hk00 hQ.sz (Nx.self _ _) b hb) (fun b hb => hQ.kp b (Ca.d0 hA hk00 b hb)) _ _ hcs⟩
    intro f w hJ
    obtain ⟨b12, l12, hs0, hs4, hs5, hs7, hs11, hs12, hvw, cx, hcs⟩ := hJ
    replace hQ := Kp.d0 w x
    obtain ⟨wk, rfl⟩ : ∃ y, y = w := ⟨_, rfl⟩
    have hk0 := cx.ext.size
    refine w_ord cx (cx.pick2 2 0 rfl rfl rfl) mixed [(0, 118), (1, 119), (2, 120), (3, 121), (4, 122), (5, 123), (6, 124), (7, 125), (9, 127), (10, 128), (11, 129), (12, 130), (13, 131), (14, 132), (15, 133)] #[true, true, true, true, true, true, true, true, false, true, true, true, true, true, true, true, false, false, false] (by kernel_rfl) (by kernel_rfl) (by kernel_rfl) (by kernel_rfl) ?_
    refine pu_one rfl (wnt_none rfl) (fun w cx => v_move rfl hs7) ?_
    refine pu_one rfl (wnt_none rfl) (fun w cx => v_move rfl hs0) ?_
    refine pu_one rfl (wnt_none rfl) (fun w cx => v_fa fa33_7 rfl hs4) ?_
    refine pu_one rfl (wnt_none rfl) (fun w cx => v_load1 rfl rfl Try.underlying31 rfl (cx.cell 0 rfl rfl)) ?_
    refine pu_one rfl (wnt_none rfl) (fun w cx => v_move rfl hs11) ?_
    refine pu_one rfl (wnt_none rfl) (fun w cx => v_ia Try.underlying31 sz77 rfl rfl rfl (by omega) (by omega)) ?_
    refine pu_one rfl (wnt_none rfl) (fun w cx => v_fa fa77_0 rfl rfl) ?_
    refine pu_one rfl (wnt_none rfl) (fun w cx => v_load1 rfl rfl Try.underlying9 rfl ((hr.keep (cx.ext.block _ (hA _ hrA))).cell 0 rfl)) ?_
    refine pu_one rfl (wnt_none rfl) (fun w cx => v_fa fa33_7 rfl hs4) ?_
    refine pu_one rfl (wnt_none rfl) (fun w cx => v_load1 rfl rfl Try.underlying31 rfl (cx.cell 0 rfl rfl)) ?_
    refine pu_one rfl (wnt_none rfl) (fun w cx => v_move rfl hs11) ?_
    refine pu_one rfl (wnt_none rfl) (fun w cx => v_ia Try.underlying31 sz77 rfl rfl rfl (by omega) (by omega)) ?_
    refine pu_one rfl (wnt_none rfl) (fun w cx => v_fa fa77_1 rfl rfl) ?_
    refine pu_one rfl (wnt_none rfl) (fun w cx => v_load rfl rfl Try.underlying33 rfl sz33 ((hr.keep (cx.ext.block _ (hA _ hrA))).tail) hrv.len) ?_
    refine pu_one rfl (wnt_none rfl) (fun w cx => v_load rfl hs12 Try.underlying33 rfl sz33 (cx.row 1 rfl) hvw.len) ?_
    refine pu_nil ?_; intro w cx hwD21
    replace hQ := hQ.below hwD21
    refine x_one (i := 8) (by kernel_rfl) rfl ?_
    have cx126b := cx
    refine s_fn cx (c87 a.fields[i].1 A p ps _ (fun b hb => Nat.lt_of_lt_of_le (hA b hb) cx.ext.size) (hpp.mono (fun _ h => h) (fun b hb => cx.ext.block b (hA b hb))) (by omega)) Try.func87 rfl rfl rfl rfl rfl rfl ?_; intro q126 w cx hw126 hp126
    replace hQ := hQ.below hw126
    refine x_next ⟨.inl (cx.pick2 2 0 rfl rfl rfl), ?_⟩
    refine x_one (i := 16) (by kernel_rfl) rfl ?_
    have cxc := cx
    obtain ⟨wj, hwj⟩ : ∃ y, y = w := ⟨_, rfl⟩
    subst hwj
    have hk1 := cx.ext.size
    refine s_fn cx (ih (p ++ [keyS a.fields[i].1]) _ a.fields[i].2 u _ _ (fun b => (A b ∨ Fr w0 wj b) ∧ x.ownBlock ≠ some b) _ (fun b hb => hb.1.elim (fun h => Nat.lt_of_lt_of_le (hA b h) hk1) (fun h => h.2)) (hp126.mono (fun b hb => ⟨.inr ⟨Nat.le_trans cx126b.ext.size hb.1, hb.2⟩, fun e => by have := (Made_lt cx126b.head b e).2; have := hb.1; omega⟩) (fun _ _ => rfl)) (RepV.mono (fun b hb => ⟨.inl hb, fun e => by have := (Made_lt cx.head b e).1; have := hA b hb; omega⟩) (fun b hb => cx.ext.block b (hA b hb)) _ _ hrv) (RepV.mono (fun b hb => ⟨.inl hb, fun e => by have := (Made_lt cx.head b e).1; have := hA b hb; omega⟩) (fun b hb => cx.ext.block b (hA b hb)) _ _ hvw) (hoa.2.2.2 _ hkm) (hob.2.2.2 _ (hasF_mem hu)) (hfa1.field hkm).2 (hfb.field (hasF_mem hu)).2 (by rw [List.length_append, List.length_singleton]; omega) (by omega) (by omega)) Try.func59 rfl rfl rfl rfl rfl rfl ?_; intro q134 w cx hw134 hp134
    replace hQ := hQ.below hw134
    obtain ⟨cs2, hrow2, hps2⟩ := hp134
    obtain ⟨wd, hwd⟩ : ∃ y, y = w := ⟨_, rfl⟩
    subst hwd
    have hlen2 := (PthsC.len _ _ hps2)
    have hm0 := hQ.sz
    have hG : dfr E d (p ++ [keyS a.fields[i].1]) a.fields[i].2 ((hasF a.fields[i].1 b.fields).getD nulV) = dfr E d (p ++ [keyS a.fields[i].1]) a.fields[i].2 u := by simp only [hu, Option.getD_some]
    refine x_next ⟨.inl (cx.pick2 2 0 rfl rfl rfl), ?_⟩
    refine x_one (i := 17) (by kernel_rfl) rfl ?_
    refine s_appendS cx ei24 Try.underlying46 rfl rfl rfl rfl rfl (src_rowk hrow2) (by rw [hlen2.1]; omega) hlen2.2 (by omega) ?_; intro v135 w cx hgr135 hnw135
    replace hQ := hQ.d0own hgr135 rfl (Nx.self _ _)
    have hKj : Kp (fun b => (A b ∨ Fr w0 wj b) ∧ x.ownBlock ≠ some b ∨ Fr wj wd b) wd w := (Kp.refl (fun b hb => hb.elim (fun h => h.1.elim (fun h => by have := hA b h; have := hw134.size; omega) (fun h => by have := h.2; have := hw134.size; omega)) (fun h => h.2))).grown hgr135 (fun b hb e => hb.elim (fun h => h.2 e) (fun h => by have := (Made_lt cxc.head b e).2; have := h.1; omega))
    have hj1 := PthsC.mono (A' := Ca A w0 w v135) (fun b hb => Ca.join hA hk1 hKj.sz hw134.size (fun q hq => (Made_lt cxc.head q hq).2) (Nat.le_refl _) hnw135 b (hb.1.imp id id)) (fun b hb => hKj.kp b (hb.1.imp id id)) _ _ hps2
    have hNw : Nx wk x v135 := fun q hq => (hnw135 q hq).imp id (fun h => Nat.le_trans hm0 h)
    have hj0 := PthsC.mono (A' := Ca A w0 w v135) (fun b hb => Ca.next hA hk0 hQ.sz hNw b hb) (fun b hb => hQ.kp b (Ca.d0 hA hk0 b hb)) _ _ hcs
    refine x_next ⟨.inr (by kernel_rfl), ?_⟩
    refine x_one (i := 18) (by kernel_rfl) rfl ?_
    refine s_val rfl rfl (v_assign rfl rfl) ?_
    refine x_next ⟨.inr (by kernel_rfl), ?_⟩
    refine x_done (by kernel_rfl) ?_
    refine wp_region_lit ?_
    refine s_val rfl rfl (v_move rfl hs11) ?_
    refine s_val rfl rfl (v_add rfl rfl rfl (by omega) (by omega)) ?_
    refine s_val rfl rfl (v_assign rfl rfl) ?_
    refine wpList_nil ?_
    refine ⟨gk18 - 1, _, by omega, rfl, i + 1, v135, cs' ++ cs2, by omega, hs0, hs4, hs5, rfl, rfl, ?_, ?_⟩
    · rw [fm_take (by omega), List.length_append, hG]
      exact cx.drop 1
    · rw [fm_take (by omega), hG]
      exact PthsC.append _ _ _ _ hj0 hj1
  try simp only [bsl] at hc104
  refine wp_exit ?_
  refine wp_seq ?_
  refine wp_region_lit ?_
  refine s_val rfl rfl (v_move rfl hs7) ?_
  refine s_val rfl rfl (v_assign rfl rfl) ?_
  refine wpList_nil ?_
  refine wp_ret ?_
  refine ret_tmp Try.results59 rfl ?_
  have hi : i = a.fields.length := by omega
  subst hi
  rw [List.take_of_length_le (Nat.le_refl _)] at cx hcs
  rw [hdf]
  exact ⟨cx.ext, cs', cx.head, hcs⟩
end Go.Proofs.Ytmkihcdcgkdilaa
end
section
namespace Go.Proofs.Ytmkihcdcgkdilaa
open Go Go.Dk Go.RowKit
set_option linter.unusedSimpArgs false
set_option linter.unusedVariables false
attribute [local irreducible] Go.wpList Go.Code.wp Go.bodyPost Go.wpStill Go.wpQuiet
def Pl (w : World) (x : Value) (D : List (List Stp)) : Prop := ∃ a c g cs, x = .slice a D.length c ∧ (0 < D.length → a = some ⟨g, 0, none⟩ ∧ RowAt w g 0 cs) ∧ PthsC (fun b => b < w.heap.size) w D cs
theorem Pl.up {w w' : World} {x : Value} {D : List (List Stp)} (h : Pl w x D) (hb : Below w.heap.size w w') : Pl w' x D := by
  obtain ⟨a, c, g, cs, e, h1, h2⟩ := h
  exact ⟨a, c, g, cs, e, fun h0 => ⟨(h1 h0).1, (h1 h0).2.up hb⟩, PthsC.mono (fun _ h => Nat.lt_of_lt_of_le h hb.size) (fun b h => hb.block b h) _ _ h2⟩
theorem pl_of_row {B : Nat} {w : World} {x : Value} {D : List (List Stp)} {cs : List Value} {C : Nat → Prop} (row : w.ownsRow B 24 1 x D.length cs) (hC : ∀ b, C b → b < w.heap.size) (hp : PthsC C w D cs) : Pl w x D := by
  obtain ⟨a, c, e, h⟩ := own_row row
  have hp' := PthsC.mono hC (fun _ _ => rfl) _ _ hp
  rcases Nat.eq_zero_or_pos D.length with h0 | h0
  · exact ⟨a, c, 0, cs, e, fun h => by omega, hp'⟩
  · obtain ⟨g, h1, h2⟩ := h h0
    exact ⟨a, c, g, cs, e, fun _ => ⟨h1, h2⟩, hp'⟩
section
variable {P : Program} {ops : Array Oper} {l : Array Bool} {k : Nat} {a : Act} {pu : List (Nat × Nat)} {Q : Exit → Act → World → Prop} {S : World → Prop} {w : World}
theorem x_four {i j m n4 : Nat} {o u v v4 : Oper} (hr : Region.ready .any ops l = [i, j, m, n4]) (ho : ops[i]? = some o) (hu : ops[j]? = some u) (hv : ops[m]? = some v) (h4 : ops[n4]? = some v4) (h : wpList P ops (Fin0 fun a' w' => (S w' ∨ lateB ops pu i = true) ∧ wpX P ops pu Q S k (l.setIfInBounds i true) a' w') [o] a w)
    (h' : wpList P ops (Fin0 fun a' w' => (S w' ∨ lateB ops pu j = true) ∧ wpX P ops pu Q S k (l.setIfInBounds j true) a' w') [u] a w) (h'' : wpList P ops (Fin0 fun a' w' => (S w' ∨ lateB ops pu m = true) ∧ wpX P ops pu Q S k (l.setIfInBounds m true) a' w') [v] a w) (h4' : wpList P ops (Fin0 fun a' w' => (S w' ∨ lateB ops pu n4 = true) ∧ wpX P ops pu Q S k (l.setIfInBounds n4 true) a' w') [v4] a w) : wpX P ops pu Q S (k + 1) l a w := by
  refine ⟨fun h0 => ?_, ?_⟩
  · rw [hr] at h0; cases h0
  · rw [hr]
    intro x hx
    have hx' : x = i ∨ x = j ∨ x = m ∨ x = n4 := by simpa using hx
    rcases hx' with rfl | rfl | rfl | rfl
    · exact ⟨o, ho, h⟩
    · exact ⟨u, hu, h'⟩
    · exact ⟨v, hv, h''⟩
    · exact ⟨v4, h4, h4'⟩
end
set_option maxRecDepth 10000 in
theorem c30 (E : V → V → Bool) (hE : ∀ x y, E x y = true ↔ canon x = canon y) (a b : V) (ra rb : List Value) (w0 : World) (hva : Val w0 a ra) (hvb : Val w0 b rb) (hoa : okd 48 a) (hob : okd 48 b) (hfa1 : Fine a) (hfb : Fine b) (hnb : (dfr E 48 [] a b).length ≤ 1048576) : Fc Try.prog 30 [.agg ra.toArray, .agg rb.toArray] w0 (fun x w' => Pl w' x (dfr E 48 [] a b)) := by
  refine ret_enter Try.func30 rfl Try.ntmps30 rfl ?_
  have cx := Ctx.start w0
  refine wp_seq ?_
  refine wp_region_lit ?_
  refine s_box cx rfl rfl rfl rfl rfl ?_; intro b2 w cx hb2 hw2
  refine s_box cx rfl rfl rfl rfl rfl ?_; intro b3 w cx hb3 hw3
  refine s_val rfl rfl (v_assign rfl rfl) ?_
  refine wpList_nil ?_
  refine wp_seq ?_
  refine wp_region_lit ?_
  refine s_val rfl rfl (v_load rfl rfl Try.underlying33 rfl sz33 (cx.row 1 rfl) hva.len) ?_
  refine s_val rfl rfl (v_load rfl rfl Try.underlying33 rfl sz33 (cx.row 0 rfl) hvb.len) ?_
  replace cx := cx.nilRow 24 1
  refine s_callR rfl rfl (runs_fn Try.func58 rfl rfl rfl rfl) (c58 E hE 48 w0 _ _ (.slice none 0 0) 0 [] [] _ a b _ _ _ cx PthA.nil (RepV.mono (fun b hb => ⟨hb, by simp [Value.ownBlock]⟩) (fun _ _ => rfl) _ _ (hva.up cx.ext)) (RepV.mono (fun b hb => ⟨hb, by simp [Value.ownBlock]⟩) (fun _ _ => rfl) _ _ (hvb.up cx.ext)) hoa hob hfa1 hfb (by simp) (by omega) (by omega)) ?_; intro q7 w hp7
  obtain ⟨cs7, cx, _, hps7, _⟩ := hp7
  refine s_val rfl rfl (v_assign rfl rfl) ?_
  refine wpList_nil ?_
  refine wp_ret ?_
  refine ret_tmp Try.results30 rfl ?_
  refine ⟨cx.ext, ?_⟩
  have hrow := cx.head
  simp only [Nat.zero_add, List.nil_append] at hrow
  exact pl_of_row hrow (fun b hb => hb.1.2) hps7
set_option maxRecDepth 10000 in
theorem c31 (E : V → V → Bool) (hE : ∀ x y, E x y = true ↔ canon x = canon y) (a b : V) (ra rb : List Value) (w0 : World) (hva : Val w0 a ra) (hvb : Val w0 b rb) (hoa : okd 48 a) (hob : okd 48 b) (hfa1 : Fine a) (hfb : Fine b) (hnb : (dfr E 48 [] a b).length ≤ 1048576) : Fc Try.prog 31 [.agg ra.toArray, .agg rb.toArray] w0 (fun x w' => Pl w' x (dfr E 48 [] a b)) := by
  refine ret_enter Try.func31 rfl Try.ntmps31 rfl ?_
  have cx := Ctx.start w0
  refine wp_seq ?_
  refine wp_region_lit ?_
  refine s_box cx rfl rfl rfl rfl rfl ?_; intro b2 w cx hb2 hw2
  refine s_box cx rfl rfl rfl rfl rfl ?_; intro b3 w cx hb3 hw3
  refine s_val rfl rfl (v_assign rfl rfl) ?_
  refine wpList_nil ?_
  refine wp_seq ?_
  refine wp_region_lit ?_
  refine s_val rfl rfl (v_load rfl rfl Try.underlying33 rfl sz33 (cx.row 1 rfl) hva.len) ?_
  refine s_val rfl rfl (v_load rfl rfl Try.underlying33 rfl sz33 (cx.row 0 rfl) hvb.len) ?_
  refine s_fn cx (c59 E hE 48 [] _ a b _ _ (fun b => b < w.heap.size) _ (fun _ h => h) PthA.nil (hva.up cx.ext) (hvb.up cx.ext) hoa hob hfa1 hfb (by simp) (by omega) hnb) Try.func59 rfl rfl rfl rfl rfl rfl ?_; intro q7 w cx hw7 hp7
  obtain ⟨cs7, hro7, hps7⟩ := hp7
  refine s_val rfl rfl (v_assign rfl rfl) ?_
  refine wpList_nil ?_
  refine wp_ret ?_
  refine ret_tmp Try.results31 rfl ?_
  exact ⟨cx.ext, pl_of_row hro7 (fun b hb => hb.1.elim (fun h => Nat.lt_of_lt_of_le h hw7.size) (fun h => h.2)) hps7⟩
end Go.Proofs.Ytmkihcdcgkdilaa
end
