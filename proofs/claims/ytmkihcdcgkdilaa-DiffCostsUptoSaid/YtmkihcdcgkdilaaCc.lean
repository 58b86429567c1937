/-
  Contracts of the two ways to count the values in a value.
-/
import Derived.Test.YtmkihcdcgkdilaaCb
import Derived.Test.YtmkihcdcgkdilaaVd
namespace Go.Proofs.Ytmkihcdcgkdilaa
open Go Go.Dk Go.RowKit
set_option linter.unusedSimpArgs false
set_option linter.unusedVariables false
attribute [local irreducible] Go.wpList Go.Code.wp Go.bodyPost Go.wpStill
set_option maxRecDepth 10000 in
theorem c136 (A : Nat → Prop) (l : List V) (s : Value) (w0 : World) (hA : ∀ b, A b → b < w0.heap.size) (hv0 : RepL A w0 s l) (hl : l.length ≤ 1048576) : Fc Try.prog 136 [s] w0 (fun v w => ∃ rs, w.ownsRow w0.heap.size 33 13 v l.length rs.flatten ∧ RowsV A w0 l rs) := by
  have hv : Lst w0 s l := RepL.mono hA (fun _ _ => rfl) hv0
  obtain ⟨a, c, b, o, rfl, hla, hlget⟩ := hv.open
  refine ret_enter Try.func136 rfl Try.ntmps136 rfl ?_
  have cx := Ctx.start w0
  refine wp_seq ?_
  refine wp_region_lit ?_
  refine s_val rfl rfl (v_assign rfl rfl) ?_
  refine wpList_nil ?_
  refine wp_seq ?_
  refine wp_seq ?_
  refine wp_region_lit ?_
  refine s_val rfl rfl (v_move rfl rfl) ?_
  refine s_val rfl rfl (v_slNil rfl rfl rfl Try.underlying30) ?_
  refine wpList_nil ?_
  refine c_split rfl (fun hc4 => ?_) (fun hc4 => ?_)
  · skip
    try simp only [Bool.and_eq_true, Bool.or_eq_true, Bool.and_eq_false_iff, Bool.or_eq_false_iff, Bool.not_eq_true', Bool.not_eq_false', decide_eq_true_eq, decide_eq_false_iff_not, beq_iff_eq, beq_eq_false_iff_ne, bne_iff_ne, bne_eq_false_iff_eq, ne_eq, Classical.not_not] at hc4
    refine wp_seq ?_
    refine wp_region_lit ?_
    refine s_val rfl rfl (v_assign rfl rfl) ?_
    refine wpList_nil ?_
    refine wp_ret ?_
    refine ret_tmp Try.results136 rfl ?_
    refine ⟨cx.ext, [], ?_, ?_⟩
    · have : l = [] := by
        obtain rfl := Option.isNone_iff_eq_none.1 hc4
        cases l with
        | nil => rfl
        | cons x l => exact absurd (hla (by simp)) (by simp)
      subst this
      exact World.ownsRow_nil _ _ _ _
    · have : l = [] := by
        obtain rfl := Option.isNone_iff_eq_none.1 hc4
        cases l with
        | nil => rfl
        | cons x l => exact absurd (hla (by simp)) (by simp)
      subst this
      trivial
  · skip
    try simp only [Bool.and_eq_true, Bool.or_eq_true, Bool.and_eq_false_iff, Bool.or_eq_false_iff, Bool.not_eq_true', Bool.not_eq_false', decide_eq_true_eq, decide_eq_false_iff_not, beq_iff_eq, beq_eq_false_iff_ne, bne_iff_ne, bne_eq_false_iff_eq, ne_eq, Classical.not_not] at hc4
    obtain ⟨ab, rfl⟩ : ∃ ab, a = some ab := by cases a with
      | none => simp at hc4
      | some ab => exact ⟨ab, rfl⟩
    refine wp_skip ?_
    refine wp_seq ?_
    refine wp_region_lit ?_
    refine s_bsl0 cx Try.underlying30 sz33 rfl rfl rfl ?_; intro b5 w cx hb5 hw5
    replace cx := Cxr.toRow (cs := []) (size := 13) (k := 0) cx rfl (by decide)
    refine s_val rfl rfl (v_move rfl rfl) ?_
    obtain ⟨b', o', hsl, hrows⟩ := hv0
    obtain ⟨rs, hrs, hrow, hlen, hone⟩ := RepLs.rows l o' hrows
    obtain ⟨h0, h1⟩ | ⟨ad, cap, h1, _, had⟩ := hsl
    · cases h1
    cases h1
    refine s_append' cx ei33 Try.underlying30 rfl rfl rfl rfl rfl (fun j u hj => ?_) hlen hone (by omega) ?_
    · rcases Nat.eq_zero_or_pos l.length with h0 | h0
      · have : rs.flatten = [] := List.eq_nil_of_length_eq_zero (by omega)
        rw [this] at hj
        simp at hj
      · rw [(had h0).1, add_addr]
        exact (hrow.up cx.ext) j u hj
    intro v7 w cx hgr7
    refine s_val rfl rfl (v_assign rfl rfl) ?_
    refine wpList_nil ?_
    refine wp_ret ?_
    refine ret_tmp Try.results136 rfl ?_
    have hro := cx.rows _ (List.mem_cons_self ..)
    simp only [Nat.zero_add, List.nil_append] at hro
    exact ⟨cx.ext, rs, hro, hrs⟩

set_option maxRecDepth 10000 in
theorem c112 (v : V) (l : List Value) (w0 : World) (hv : Val w0 v l) (hf : Fine v) : Fc Try.prog 112 [.agg l.toArray] w0 (fun s w => Lst w s (kidsP v)) := by
  obtain ⟨bs, ls, fs, rfl, hbs, hls, hfs⟩ := hv.open
  have hls0 := hls
  have hfs0 := hfs
  obtain ⟨la, lc, lb, lo, rfl, hla, hlget⟩ := hls0.open
  obtain ⟨fa, fc, fb, fo, rfl, hfa, hfget⟩ := hfs0.open
  have hz := hf.self
  refine ret_enter Try.func112 rfl Try.ntmps112 rfl ?_
  have cx := Ctx.start w0
  refine wp_seq ?_
  refine wp_region_lit ?_
  refine s_box cx rfl rfl rfl rfl rfl ?_; intro b1 w cx hb1 hw1
  refine s_val rfl rfl (v_assign rfl rfl) ?_
  refine wpList_nil ?_
  refine wp_seq ?_
  refine wp_region_lit ?_
  refine s_val rfl rfl (v_fa fa33_6 rfl rfl) ?_
  refine s_val rfl rfl (v_load1 rfl rfl Try.underlying30 rfl (cx.cell 0 rfl rfl)) ?_
  have cxo := cx
  refine s_fn cx (c136 (fun b => b < w0.heap.size) _ _ _ (fun b hb => Nat.lt_of_lt_of_le hb cx.ext.size) (RepL.mono (fun _ h => h) (fun b hb => cx.ext.block b hb) hls) (by omega)) Try.func136 rfl rfl rfl rfl rfl rfl ?_; intro q8 wc cx hw8 hp8
  obtain ⟨rs0, hro, hrs0⟩ := hp8
  replace cx := cxo.callRow hw8 hro
  replace hrs0 := RowsV.mono (A' := fun b => b < w0.heap.size) (w' := w0) (fun _ h => h) (fun b hb => (cxo.ext.block b hb).symm) _ _ hrs0
  refine s_val rfl rfl (v_assign rfl rfl) ?_
  refine wpList_nil ?_
  refine wp_seq ?_
  refine wp_seq ?_
  refine wp_region_lit ?_
  refine s_val rfl rfl (v_fa fa33_7 rfl rfl) ?_
  refine s_val rfl rfl (v_load1 rfl rfl Try.underlying31 rfl (cx.cell 0 rfl rfl)) ?_
  refine s_val rfl rfl (v_lenSlice rfl rfl Try.underlying31) ?_
  refine s_val rfl rfl (v_move rfl rfl) ?_
  refine wpList_nil ?_
  refine wp_block ?_
  refine w_loop (fun k f w1 => ∃ (i m : Nat) (x : Value) (rs : List (List Value)), k + i = v.fields.length ∧ m = v.list.length + i ∧ f 10 = .slice fa v.fields.length fc ∧ f 11 = .int .i64 v.fields.length ∧ f 12 = .int .i64 i ∧ f 3 = x ∧ Cxr w0 w1 [(b1, .cells (vrow v.sc bs (.slice la v.list.length lc) (.slice fa v.fields.length fc)).toArray 33)] [⟨33, 13, x, m, rs.flatten⟩] ∧ RowsV (fun b => b < w0.heap.size) w0 (v.list ++ (v.fields.map (·.2)).take i) rs) (v.fields.length) ?_ ?_
  · skip
    exact ⟨0, _, _, rs0, by omega, rfl, rfl, rfl, rfl, rfl, cx, by simpa using hrs0⟩
  intro gk3 f w hJ
  obtain ⟨i, m, x, rs, hk, hm, hs10, hs11, hs12, hs3, cx, hrows⟩ := hJ
  refine wp_seq ?_
  refine wp_region_lit ?_
  refine s_val rfl rfl (v_cmp rfl hs12 hs11 rfl) ?_
  refine wpList_nil ?_
  refine wp_seq ?_
  refine c_split rfl (fun hc13 => ?_) (fun hc13 => ?_)
  · skip
    try simp only [Bool.and_eq_true, Bool.or_eq_true, Bool.and_eq_false_iff, Bool.or_eq_false_iff, Bool.not_eq_true', Bool.not_eq_false', decide_eq_true_eq, decide_eq_false_iff_not, beq_iff_eq, beq_eq_false_iff_ne, bne_iff_ne, bne_eq_false_iff_eq, ne_eq, Classical.not_not] at hc13
    obtain rfl := hfa (by omega)
    obtain ⟨r, hr, hrv⟩ := hfget i v.fields[i] (List.getElem?_eq_getElem (by omega))
    obtain ⟨ebs, els, efs, rfl, _⟩ := hrv.open
    refine wp_skip ?_
    refine wp_seq ?_
    refine wp_block ?_
    refine wp_seq ?_
    refine wp_region_lit ?_
    refine s_val rfl rfl (v_ia Try.underlying31 sz77 rfl hs10 hs12 (by omega) (by omega)) ?_
    refine s_val rfl rfl (v_load rfl rfl Try.underlying77 rfl sz77 (hr.up cx.ext) (by rfl)) ?_
    refine s_alloc cx z77 rfl rfl rfl ?_; intro b5 w cx hb5 hw5
    refine s_storeAll cx 0 rfl rfl rfl rfl rfl rfl sz77 rfl (by exact hrv.oneCell) ?_; intro w cx hsz5
    refine wpList_nil ?_
    refine wp_region_lit ?_
    refine s_val rfl rfl (v_move rfl hs3) ?_
    refine s_val rfl rfl (v_fa fa77_1 rfl rfl) ?_
    refine s_val rfl rfl (v_load rfl rfl Try.underlying33 rfl sz33 ((cx.row 0 rfl).rv 1 rfl) rfl) ?_
    refine s_bsl1 cx Try.underlying30 sz33 z33 rfl rfl rfl rfl rfl rfl rfl rfl ?_; intro b19 w cx hb19 hw19
    refine s_append (m := 1) cx ei33 Try.underlying30 rfl rfl rfl rfl rfl (cx.row 0 rfl) rfl hrv.oneCell (by omega) ?_; intro v20 w cx hgr20
    replace cx := cx.drop 2
    refine s_val rfl rfl (v_assign rfl rfl) ?_
    refine wpList_nil ?_
    refine wp_region_lit ?_
    refine s_val rfl rfl (v_add rfl hs12 rfl (by omega) (by omega)) ?_
    refine s_val rfl rfl (v_move rfl rfl) ?_
    refine wpList_nil ?_
    refine ⟨gk3 - 1, _, by omega, rfl, i + 1, m + 1, v20, rs ++ [vrow v.fields[i].2.sc ebs els efs], by omega, by omega, hs10, hs11, rfl, rfl, by simpa using cx, ?_⟩
    have e : (v.fields.map (·.2)).take (i + 1) = (v.fields.map (·.2)).take i ++ [v.fields[i].2] := by
      rw [List.take_succ_eq_append_getElem (by simp; omega)]; simp
    rw [e, ← List.append_assoc]
    exact RowsV.snoc _ _ hrows hrv
  · skip
    try simp only [Bool.and_eq_true, Bool.or_eq_true, Bool.and_eq_false_iff, Bool.or_eq_false_iff, Bool.not_eq_true', Bool.not_eq_false', decide_eq_true_eq, decide_eq_false_iff_not, beq_iff_eq, beq_eq_false_iff_ne, bne_iff_ne, bne_eq_false_iff_eq, ne_eq, Classical.not_not] at hc13
    refine wp_exit ?_
    refine wp_seq ?_
    refine wp_region_lit ?_
    refine s_val rfl rfl (v_move rfl hs3) ?_
    refine s_val rfl rfl (v_assign rfl rfl) ?_
    refine wpList_nil ?_
    refine wp_ret ?_
    refine ret_tmp Try.results112 rfl ?_
    refine ⟨cx.ext, ?_⟩
    have hi : i = v.fields.length := by omega
    subst hi
    rw [List.take_of_length_le (by simp)] at hrows
    exact cx.lst (by simp [kidsP]; omega) hrows

set_option maxRecDepth 10000 in
theorem c75 : ∀ (d k : Nat) (kk : Int) (v : V) (l : List Value) (w0 : World), deep d v → d ≤ k → k ≤ 65536 → kk = k → tsz d v ≤ 1000 → Val w0 v l → Fine v →
    Fc Try.prog 75 [.agg l.toArray, .int .i64 kk] w0 (IsI fun m => m = tsz d v) := by
  intro d
  induction d using Nat.strongRecOn with
  | _ d ih =>
  intro k kk v l w0 hdp hdk1 hk1 hkk hsz hv hf
  have hdk : ∀ x ∈ kidsP v, deep (d - 1) x := by
    cases d with
    | zero => exact hdp.elim
    | succ e => exact deep_kids hdp
  have hd1 : 1 ≤ d := by
    cases d with
    | zero => exact hdp.elim
    | succ e => omega
  have hts : tsz d v = 1 + ((kidsP v).map (tsz (d - 1))).sum := by
    obtain ⟨e, rfl⟩ : ∃ e, d = e + 1 := ⟨d - 1, by omega⟩
    exact tsz_kids e v
  have hkf := hf.kids
  have hkl : (kidsP v).length ≤ 2097152 := by have := hf.self; simp [kidsP]; omega
  obtain ⟨bs, ls, fs, rfl, _⟩ := hv.open
  have hz := hf.self
  refine ret_enter Try.func75 rfl Try.ntmps75 rfl ?_
  have cx := Ctx.start w0
  refine wp_seq ?_
  refine wp_region_lit ?_
  refine s_box cx rfl rfl rfl rfl rfl ?_; intro b2 w cx hb2 hw2
  refine s_val rfl rfl (v_assign rfl rfl) ?_
  refine wpList_nil ?_
  refine wp_seq ?_
  refine wp_region_lit ?_
  refine s_val rfl rfl (v_assign rfl rfl) ?_
  refine wpList_nil ?_
  refine wp_seq ?_
  refine wp_seq ?_
  refine wp_region_lit ?_
  refine s_val rfl rfl (v_move rfl rfl) ?_
  refine s_val rfl rfl (v_cmp rfl rfl rfl rfl) ?_
  refine wpList_nil ?_
  refine c_split rfl (fun hc9 => ?_) (fun hc9 => ?_)
  · skip
    try simp only [Bool.and_eq_true, Bool.or_eq_true, Bool.and_eq_false_iff, Bool.or_eq_false_iff, Bool.not_eq_true', Bool.not_eq_false', decide_eq_true_eq, decide_eq_false_iff_not, beq_iff_eq, beq_eq_false_iff_ne, bne_iff_ne, bne_eq_false_iff_eq, ne_eq, Classical.not_not] at hc9
    obtain ⟨e, rfl⟩ : ∃ e, d = e + 1 := by cases d with
      | zero => exact hdp.elim
      | succ e => exact ⟨e, rfl⟩
    exfalso; omega
  · skip
    try simp only [Bool.and_eq_true, Bool.or_eq_true, Bool.and_eq_false_iff, Bool.or_eq_false_iff, Bool.not_eq_true', Bool.not_eq_false', decide_eq_true_eq, decide_eq_false_iff_not, beq_iff_eq, beq_eq_false_iff_ne, bne_iff_ne, bne_eq_false_iff_eq, ne_eq, Classical.not_not] at hc9
    refine wp_skip ?_
    refine wp_seq ?_
    refine wp_seq ?_
    refine wp_region_lit ?_
    refine s_val rfl rfl (v_load rfl rfl Try.underlying33 rfl sz33 (cx.row 0 rfl) (by first | rfl | exact hv.len)) ?_
    refine s_fn cx (c112 _ _ _ (hv.up cx.ext) hf) Try.func112 rfl rfl rfl rfl rfl rfl ?_; intro q12 wk cx hw12 hp12
    obtain ⟨ka, kc, kb, ko, rfl, hka, hkget⟩ := hp12.open
    have cxb := cx
    replace cx := Ctx.start wk
    refine s_val rfl rfl (v_lenSlice rfl rfl Try.underlying30) ?_
    refine s_val rfl rfl (v_move rfl rfl) ?_
    refine wpList_nil ?_
    refine wp_block ?_
    refine w_loop (fun k f w1 => ∃ i : Nat, k + i = (kidsP v).length ∧ f 1 = .int .i64 kk ∧ f 12 = .slice ka (kidsP v).length kc ∧ f 13 = .int .i64 (kidsP v).length ∧ f 14 = .int .i64 i ∧ f 5 = .int .i64 (1 + (((kidsP v).map (tsz (d - 1))).take i).sum : Nat) ∧ Ctx wk w1 []) ((kidsP v).length) ?_ ?_
    · skip
      exact ⟨0, by omega, rfl, rfl, rfl, rfl, by simp; rfl, cx⟩
    intro gk5 f w hJ
    obtain ⟨i, hki, hs1, hs12, hs13, hs14, hs5, cx⟩ := hJ
    refine wp_seq ?_
    refine wp_region_lit ?_
    refine s_val rfl rfl (v_cmp rfl hs14 hs13 rfl) ?_
    refine wpList_nil ?_
    refine wp_seq ?_
    refine c_split rfl (fun hc15 => ?_) (fun hc15 => ?_)
    · skip
      try simp only [Bool.and_eq_true, Bool.or_eq_true, Bool.and_eq_false_iff, Bool.or_eq_false_iff, Bool.not_eq_true', Bool.not_eq_false', decide_eq_true_eq, decide_eq_false_iff_not, beq_iff_eq, beq_eq_false_iff_ne, bne_iff_ne, bne_eq_false_iff_eq, ne_eq, Classical.not_not] at hc15
      obtain rfl := hka (by omega)
      obtain ⟨r, hr, hrv⟩ := hkget i (kidsP v)[i] (List.getElem?_eq_getElem (by omega))
      obtain ⟨ebs, els, efs, rfl, _⟩ := hrv.open
      have hsu1 := sum_take_succ ((kidsP v).map (tsz (d - 1))) i (by simp; omega)
      have hsu2 := sum_take_le ((kidsP v).map (tsz (d - 1))) (i + 1)
      rw [List.getElem_map] at hsu1
      refine wp_skip ?_
      refine wp_seq ?_
      refine wp_block ?_
      refine wp_seq ?_
      refine wp_region_lit ?_
      refine s_val rfl rfl (v_ia Try.underlying30 sz33 rfl hs12 hs14 (by omega) (by omega)) ?_
      refine s_val rfl rfl (v_load rfl rfl Try.underlying33 rfl sz33 (hr.up cx.ext) rfl) ?_
      refine s_alloc cx z33 rfl rfl rfl ?_; intro b7 w cx hb7 hw7
      refine s_storeAll cx 0 rfl rfl rfl rfl rfl rfl sz33 rfl (by exact hrv.oneCell) ?_; intro w cx hsz7
      refine wpList_nil ?_
      refine wp_region_lit ?_
      refine s_val rfl rfl (v_move rfl hs5) ?_
      refine s_val rfl rfl (v_load rfl rfl Try.underlying33 rfl sz33 (cx.row 0 rfl) (by first | rfl | exact hv.len)) ?_
      refine s_val rfl rfl (v_move rfl hs1) ?_
      refine s_val rfl rfl (v_sub rfl rfl rfl (by omega) (by omega)) ?_
      refine s_fnI cx (ih (d - 1) (by omega) (k - 1) _ _ _ _ (hdk _ (List.getElem_mem _)) (by omega) (by omega) (by omega) (by omega) (hrv.up cx.ext) (hkf _ (List.getElem_mem _))) Try.func75 rfl rfl rfl rfl rfl rfl ?_; intro q22 w cx hw22 hp22
      refine s_val rfl rfl (v_add rfl rfl rfl (by omega) (by omega)) ?_
      refine s_val rfl rfl (v_assign rfl rfl) ?_
      refine wpList_nil ?_
      refine wp_region_lit ?_
      refine s_val rfl rfl (v_add rfl hs14 rfl (by omega) (by omega)) ?_
      refine s_val rfl rfl (v_move rfl rfl) ?_
      refine wpList_nil ?_
      refine ⟨gk5 - 1, _, by omega, rfl, i + 1, by omega, hs1, hs12, hs13, rfl, ?_, cx.drop 1⟩
      show Value.int .i64 _ = _
      congr 1; omega
    · skip
      try simp only [Bool.and_eq_true, Bool.or_eq_true, Bool.and_eq_false_iff, Bool.or_eq_false_iff, Bool.not_eq_true', Bool.not_eq_false', decide_eq_true_eq, decide_eq_false_iff_not, beq_iff_eq, beq_eq_false_iff_ne, bne_iff_ne, bne_eq_false_iff_eq, ne_eq, Classical.not_not] at hc15
      refine wp_exit ?_
      refine wp_seq ?_
      refine wp_region_lit ?_
      refine s_val rfl rfl (v_move rfl hs5) ?_
      refine s_val rfl rfl (v_assign rfl rfl) ?_
      refine wpList_nil ?_
      refine wp_ret ?_
      refine ret_tmp Try.results75 rfl ?_
      refine ⟨cxb.ext.trans (cx.ext.mono cxb.ext.size), _, rfl, ?_⟩
      have hi : i = (kidsP v).length := by omega
      subst hi
      rw [List.take_of_length_le (by simp), ← hts]

set_option maxRecDepth 10000 in
theorem c48 (v : V) (l : List Value) (w0 : World) (hdp : deep 60 v) (hsz : tsz 60 v ≤ 1000) (hv : Val w0 v l) (hf : Fine v) : Fc Try.prog 48 [.agg l.toArray] w0 (IsI fun m => m = tsz 60 v) := by
  refine ret_enter Try.func48 rfl Try.ntmps48 rfl ?_
  have cx := Ctx.start w0
  refine wp_seq ?_
  refine wp_region_lit ?_
  refine s_box cx rfl rfl rfl rfl rfl ?_; intro b1 w cx hb1 hw1
  refine s_val rfl rfl (v_assign rfl rfl) ?_
  refine wpList_nil ?_
  refine wp_seq ?_
  refine wp_region_lit ?_
  refine s_val rfl rfl (v_load rfl rfl Try.underlying33 rfl sz33 (cx.row 0 rfl) hv.len) ?_
  refine s_fnI cx (c75 60 65536 _ _ _ _ hdp (by omega) (by omega) rfl hsz (hv.up cx.ext) hf) Try.func75 rfl rfl rfl rfl rfl rfl ?_; intro q4 w cx hw4 hp4
  refine s_val rfl rfl (v_assign rfl rfl) ?_
  refine wpList_nil ?_
  refine wp_ret ?_
  refine ret_tmp Try.results48 rfl ?_
  exact ⟨cx.ext, _, rfl, hp4⟩

set_option maxRecDepth 10000 in
theorem c49 : ∀ (d : Nat) (v : V) (l : List Value) (w0 : World), okd d v → tsz d v ≤ 1000 → Val w0 v l → Fine v → Fc Try.prog 49 [.agg l.toArray] w0 (IsI fun m => m = tsz d v) := by
  intro d
  induction d using Nat.strongRecOn with
  | _ d ih =>
  intro v l w0 hok hsz hv hf
  have hd1 : 1 ≤ d := by
    cases d with
    | zero => exact hok.elim
    | succ e => omega
  have hkk : kidsR v = kidsP v := by
    obtain ⟨e, rfl⟩ : ∃ e, d = e + 1 := ⟨d - 1, by omega⟩
    exact kids_own hok.1
  have hdk : ∀ x ∈ kidsR v, okd (d - 1) x := by
    obtain ⟨e, rfl⟩ : ∃ e, d = e + 1 := ⟨d - 1, by omega⟩
    rw [hkk]; exact okd_kids hok
  have hts : tsz d v = 1 + ((kidsR v).map (tsz (d - 1))).sum := by
    obtain ⟨e, rfl⟩ : ∃ e, d = e + 1 := ⟨d - 1, by omega⟩
    rw [hkk]; exact tsz_kids e v
  have hkf : ∀ x ∈ kidsR v, Fine x := by rw [hkk]; exact hf.kids
  have hkl : (kidsR v).length ≤ 2097152 := by have := hf.self; rw [hkk]; simp [kidsP]; omega
  obtain ⟨bs, ls, fs, rfl, _⟩ := hv.open
  have hz := hf.self
  refine ret_enter Try.func49 rfl Try.ntmps49 rfl ?_
  have cx := Ctx.start w0
  refine wp_seq ?_
  refine wp_region_lit ?_
  refine s_box cx rfl rfl rfl rfl rfl ?_; intro b1 w cx hb1 hw1
  refine s_val rfl rfl (v_assign rfl rfl) ?_
  refine wpList_nil ?_
  refine wp_seq ?_
  refine wp_region_lit ?_
  refine s_val rfl rfl (v_assign rfl rfl) ?_
  refine wpList_nil ?_
  refine wp_seq ?_
  refine wp_region_lit ?_
  refine s_val rfl rfl (v_load rfl rfl Try.underlying33 rfl sz33 (cx.row 0 rfl) (by first | rfl | exact hv.len)) ?_
  refine s_fn cx (c76 _ _ _ (hv.up cx.ext) hf) Try.func76 rfl rfl rfl rfl rfl rfl ?_; intro q7 wk cx hw7 hp7
  obtain ⟨ka, kc, kb, ko, rfl, hka, hkget⟩ := hp7.open
  have cxb := cx
  replace cx := Ctx.start wk
  refine s_val rfl rfl (v_assign rfl rfl) ?_
  refine wpList_nil ?_
  refine wp_seq ?_
  refine wp_seq ?_
  refine wp_region_lit ?_
  refine s_val rfl rfl (v_assign rfl rfl) ?_
  refine wpList_nil ?_
  refine wp_block ?_
  refine w_loop (fun k f w1 => ∃ i : Nat, k + i = (kidsR v).length ∧ f 4 = .slice ka (kidsR v).length kc ∧ f 5 = .int .i64 i ∧ f 3 = .int .i64 (1 + (((kidsR v).map (tsz (d - 1))).take i).sum : Nat) ∧ Ctx wk w1 []) ((kidsR v).length) ?_ ?_
  · skip
    exact ⟨0, by omega, rfl, rfl, by simp; rfl, cx⟩
  intro gk4 f w hJ
  obtain ⟨i, hki, hs4, hs5, hs3, cx⟩ := hJ
  refine wp_seq ?_
  refine wp_seq ?_
  refine wp_region_lit ?_
  refine s_val rfl rfl (v_move rfl hs5) ?_
  refine s_val rfl rfl (v_move rfl hs4) ?_
  refine s_val rfl rfl (v_lenSlice rfl rfl Try.underlying30) ?_
  refine s_val rfl rfl (v_cmp rfl rfl rfl rfl) ?_
  refine wpList_nil ?_
  refine c_split rfl (fun hc11 => ?_) (fun hc11 => ?_)
  · skip
    try simp only [Bool.and_eq_true, Bool.or_eq_true, Bool.and_eq_false_iff, Bool.or_eq_false_iff, Bool.not_eq_true', Bool.not_eq_false', decide_eq_true_eq, decide_eq_false_iff_not, beq_iff_eq, beq_eq_false_iff_ne, bne_iff_ne, bne_eq_false_iff_eq, ne_eq, Classical.not_not] at hc11
    obtain rfl := hka (by omega)
    obtain ⟨r, hr, hrv⟩ := hkget i (kidsR v)[i] (List.getElem?_eq_getElem (by omega))
    have hsu1 := sum_take_succ ((kidsR v).map (tsz (d - 1))) i (by simp; omega)
    have hsu2 := sum_take_le ((kidsR v).map (tsz (d - 1))) (i + 1)
    rw [List.getElem_map] at hsu1
    refine wp_skip ?_
    refine wp_seq ?_
    refine wp_block ?_
    refine wp_region_lit ?_
    refine s_val rfl rfl (v_move rfl hs3) ?_
    refine s_val rfl rfl (v_move rfl hs4) ?_
    refine s_val rfl rfl (v_move rfl hs5) ?_
    refine s_val rfl rfl (v_ia Try.underlying30 sz33 rfl rfl rfl (by omega) (by omega)) ?_
    refine s_val rfl rfl (v_load rfl rfl Try.underlying33 rfl sz33 (hr.up cx.ext) hrv.len) ?_
    refine s_fnI cx (ih (d - 1) (by omega) _ _ _ (hdk _ (List.getElem_mem _)) (by omega) (hrv.up cx.ext) (hkf _ (List.getElem_mem _))) Try.func49 rfl rfl rfl rfl rfl rfl ?_; intro q19 w cx hw19 hp19
    refine s_val rfl rfl (v_add rfl rfl rfl (by omega) (by omega)) ?_
    refine s_val rfl rfl (v_assign rfl rfl) ?_
    refine wpList_nil ?_
    refine wp_region_lit ?_
    refine s_val rfl rfl (v_move rfl hs5) ?_
    refine s_val rfl rfl (v_add rfl rfl rfl (by omega) (by omega)) ?_
    refine s_val rfl rfl (v_assign rfl rfl) ?_
    refine wpList_nil ?_
    refine ⟨gk4 - 1, _, by omega, rfl, i + 1, by omega, hs4, rfl, ?_, cx⟩
    show Value.int .i64 _ = _
    congr 1; omega
  · skip
    try simp only [Bool.and_eq_true, Bool.or_eq_true, Bool.and_eq_false_iff, Bool.or_eq_false_iff, Bool.not_eq_true', Bool.not_eq_false', decide_eq_true_eq, decide_eq_false_iff_not, beq_iff_eq, beq_eq_false_iff_ne, bne_iff_ne, bne_eq_false_iff_eq, ne_eq, Classical.not_not] at hc11
    refine wp_exit ?_
    refine wp_seq ?_
    refine wp_region_lit ?_
    refine s_val rfl rfl (v_move rfl hs3) ?_
    refine s_val rfl rfl (v_assign rfl rfl) ?_
    refine wpList_nil ?_
    refine wp_ret ?_
    refine ret_tmp Try.results49 rfl ?_
    refine ⟨cxb.ext.trans (cx.ext.mono cxb.ext.size), _, rfl, ?_⟩
    have hi : i = (kidsR v).length := by omega
    subst hi
    rw [List.take_of_length_le (by simp), ← hts]
end Go.Proofs.Ytmkihcdcgkdilaa
