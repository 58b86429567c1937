/-
  FormatInt at base 16.
-/
import Derived.Test.YthiafbkolhnadaaGreatDoorGt
set_option linter.unusedSimpArgs false
set_option linter.unusedVariables false
namespace Go.Proofs.YthiafbkolhnadaaGreatDoor
open Go Go.Dk Go.RowKit Go.Lib
attribute [local irreducible] Go.wpList Go.Code.wp Go.bodyPost Go.wpStill
theorem szA : (Tryz.prog.info? 5).map (·.size) = some 1 := by kernel_rfl
theorem zA : Zero Tryz.prog 360 (List.replicate 65 (.int .u8 0)) := zero_of (v := .agg (List.replicate 65 (.int .u8 0)).toArray) (by kernel_rfl) rfl
set_option maxHeartbeats 4000000 in
set_option maxRecDepth 10000 in
theorem c292 (w0 : World) : Fc Tryz.prog 292 [.int .i64 16] w0 (IsB fun b => b = true) := by
  refine ret_enter Tryz.func292 rfl Tryz.ntmps292 rfl ?_
  have cx := Ctx.start w0
  refine wp_seq ?_
  refine wp_region_lit ?_
  refine s_val rfl rfl (v_assign rfl rfl) ?_
  refine wpList_nil ?_
  refine wp_seq ?_
  refine wp_region_lit ?_
  refine s_val rfl rfl (v_move rfl rfl) ?_
  refine s_val rfl rfl (v_move rfl rfl) ?_
  refine s_val rfl rfl (v_sub rfl rfl rfl (by omega) (by omega)) ?_
  refine s_val rfl rfl (v_band rfl rfl rfl) ?_
  refine s_val rfl rfl (v_cmp rfl rfl rfl rfl) ?_
  refine s_val rfl rfl (v_assign rfl rfl) ?_
  refine wpList_nil ?_
  refine wp_ret ?_
  refine ret_tmp Tryz.results292 rfl ?_
  exact ⟨cx.ext, _, rfl, by decide⟩

theorem and15u {m : Nat} (h : m < 256) : bitOp .and .u64 (m : Int) 15 = ((m % 16 : Nat) : Int) := by
  have : ∀ b : Fin 256, bitOp .and .u64 (b.val : Int) 15 = ((b.val % 16 : Nat) : Int) := by decide +kernel
  exact this ⟨m, h⟩
theorem shr4u {m : Nat} (h : m < 256) : shr .u64 (m : Int) 4 = ((m / 16 : Nat) : Int) := by
  have : ∀ b : Fin 256, shr .u64 (b.val : Int) 4 = ((b.val / 16 : Nat) : Int) := by decide +kernel
  exact this ⟨m, h⟩
def dgb : ByteArray := ⟨#[48, 49, 50, 51, 52, 53, 54, 55, 56, 57, 97, 98, 99, 100, 101, 102, 103, 104, 105, 106, 107, 108, 109, 110, 111, 112, 113, 114, 115, 116, 117, 118, 119, 120, 121, 122]⟩
theorem digs {m : Nat} (h : m < 16) : byteAt dgb (m : Int) = ((hexd m).toNat : Int) := by
  have : ∀ b : Fin 16, byteAt dgb (b.val : Int) = ((hexd b.val).toNat : Int) := by decide +kernel
  exact this ⟨m, h⟩
theorem dig_and {m : Nat} (h : m < 256) : byteAt dgb (bitOp .and .u64 (m : Int) 15) = ((hexd (m % 16)).toNat : Int) := by rw [and15u h]; exact digs (by omega)
theorem strOf_a {a : UInt8} : strOf [(a.toNat : Int)] = bs [a] := strOf_bs [a]
theorem strOf_ab {a b : UInt8} : strOf [(a.toNat : Int), (b.toNat : Int)] = bs [a, b] := strOf_bs [a, b]
set_option maxHeartbeats 4000000 in
set_option maxRecDepth 10000 in
theorem c216a (m : Nat) (w0 : World) (hm : m < 16) (ht : Tabs w0) : Fc Tryz.prog 216 [.slice none 0 0, .int .u64 m, .int .i64 16, .bool false, .bool false] w0 (fun v _ => ∃ x, v = .tuple #[x, .string (bs (hexs m))]) := by
  refine ret_enter Tryz.func216 rfl Tryz.ntmps216 rfl ?_
  have cx := Ctx.start w0
  refine wp_seq ?_
  refine wp_region_lit ?_
  refine s_val rfl rfl (v_assign rfl rfl) ?_
  refine s_val rfl rfl (v_assign rfl rfl) ?_
  refine wpList_nil ?_
  refine wp_seq ?_
  refine wp_seq ?_
  refine wp_region_lit ?_
  refine s_val rfl rfl (v_move rfl rfl) ?_
  refine s_val rfl rfl (v_cmp rfl rfl rfl rfl) ?_
  refine s_val rfl rfl (v_move rfl rfl) ?_
  refine s_gval rfl rfl rfl (by first | exact w_ff rfl | exact w_gf rfl) (fun hc => v_move rfl (by first | exact gve hc rfl | exact gve (and_l hc) rfl | exact gve (and_l (and_l hc)) rfl | rfl)) ?_
  refine s_gval rfl rfl rfl (by first | exact w_ff rfl | exact w_gf rfl) (fun hc => v_cmp rfl (by first | exact gve hc rfl | exact gve (and_l hc) rfl | exact gve (and_l (and_l hc)) rfl | rfl) rfl rfl) ?_
  refine s_val rfl rfl (v_or rfl rfl rfl rfl) ?_
  refine s_val rfl rfl (v_move rfl rfl) ?_
  refine s_gval rfl rfl rfl (by first | exact w_ff rfl | exact w_gf rfl) (fun hc => v_move rfl (by first | exact gve hc rfl | exact gve (and_l hc) rfl | exact gve (and_l (and_l hc)) rfl | rfl)) ?_
  refine s_gval rfl rfl rfl (by first | exact w_ff rfl | exact w_gf rfl) (fun hc => v_cmp rfl (by first | exact gve hc rfl | exact gve (and_l hc) rfl | exact gve (and_l (and_l hc)) rfl | rfl) rfl rfl) ?_
  refine s_val rfl rfl (v_or rfl rfl rfl rfl) ?_
  refine wpList_nil ?_
  refine wp_cond_false (show (St _ _).eval _ = _ by rw [eval_St]; rfl) ?_
  refine wp_skip ?_
  refine wp_seq ?_
  refine wp_region_lit ?_
  refine s_alloc cx zA rfl rfl rfl ?_; intro b12 w cx hb12 hw12
  refine wpList_nil ?_
  refine wp_seq ?_
  refine wp_region_lit ?_
  refine s_val rfl rfl (v_assign rfl rfl) ?_
  refine wpList_nil ?_
  refine wp_seq ?_
  refine wp_seq ?_
  refine wp_region_lit ?_
  refine s_val rfl rfl (v_move rfl rfl) ?_
  refine wpList_nil ?_
  refine wp_cond_false (show (St _ _).eval _ = _ by rw [eval_St]; rfl) ?_
  refine wp_skip ?_
  refine wp_seq ?_
  refine wp_seq ?_
  refine wp_region_lit ?_
  refine s_val rfl rfl (v_move rfl rfl) ?_
  refine s_fnB cx (c292 _) Tryz.func292 rfl rfl rfl rfl rfl rfl ?_; intro q34 w cx hw34 hp34
  subst hp34
  refine wpList_nil ?_
  refine wp_cond_true (show (St _ _).eval _ = _ by rw [eval_St]; rfl) ?_
  refine wp_seq ?_
  refine wp_region_lit ?_
  refine s_val rfl rfl (v_move rfl rfl) ?_
  refine s_val rfl rfl (v_conv rfl rfl Tryz.underlying3 Tryz.underlying237) ?_
  refine s_fnI cx (c293 _ (ht.up cx.ext)) Tryz.func293 rfl rfl rfl rfl rfl rfl ?_; intro q37 w cx hw37 hp37
  subst hp37
  refine s_val rfl rfl (v_conv rfl rfl Tryz.underlying3 Tryz.underlying237) ?_
  refine s_val rfl rfl (v_assign rfl rfl) ?_
  refine wpList_nil ?_
  refine wp_seq ?_
  refine wp_region_lit ?_
  refine s_val rfl rfl (v_move rfl rfl) ?_
  refine s_val rfl rfl (v_conv rfl rfl Tryz.underlying3 Tryz.underlying299) ?_
  refine s_val rfl rfl (v_assign rfl rfl) ?_
  refine wpList_nil ?_
  refine wp_seq ?_
  refine wp_region_lit ?_
  refine s_val rfl rfl (v_move rfl rfl) ?_
  refine s_val rfl rfl (v_conv rfl rfl Tryz.underlying3 Tryz.underlying237) ?_
  refine s_val rfl rfl (v_subK rfl rfl rfl) ?_
  refine s_val rfl rfl (v_assign rfl rfl) ?_
  refine wpList_nil ?_
  refine wp_seq ?_
  refine wp_block ?_
  refine w_loop (fun k f w1 => f 1 = .int .u64 m ∧ f 13 = .int .i64 65 ∧ (∃ b12, f 12 = .pointer (some ⟨b12, 0, none⟩) ∧ Ctx w0 w1 [(b12, .cells (List.replicate 65 (Value.int .u8 0)).toArray 360)]) ∧ f 15 = .int .u64 16 ∧ f 16 = .int .u64 15 ∧ f 14 = .int .u64 4 ∧ f 3 = .bool false ∧ f 4 = .bool false ∧ f 10 = .slice none 0 0) (0) ?_ ?_
  · skip
    exact ⟨rfl, rfl, ⟨_, rfl, cx⟩, rfl, rfl, rfl, rfl, rfl, rfl⟩
  intro gk11 f w hJ
  obtain ⟨hs1, hs13, ⟨b12, hs12, cx⟩, hs15, hs16, hs14, hs3, hs4, hs10⟩ := hJ
  refine wp_seq ?_
  refine wp_seq ?_
  refine wp_region_lit ?_
  refine s_val rfl rfl (v_move rfl hs1) ?_
  refine s_val rfl rfl (v_move rfl hs15) ?_
  refine s_val rfl rfl (v_cmp rfl rfl rfl rfl) ?_
  refine wpList_nil ?_
  refine c_split rfl (fun hc46 => ?_) (fun hc46 => ?_)
  · skip
    exfalso
    simp at hc46
    omega
  · skip
    try simp only [Bool.and_eq_true, Bool.or_eq_true, Bool.and_eq_false_iff, Bool.or_eq_false_iff, Bool.not_eq_true', Bool.not_eq_false', decide_eq_true_eq, decide_eq_false_iff_not, beq_iff_eq, beq_eq_false_iff_ne, bne_iff_ne, bne_eq_false_iff_eq, ne_eq, Classical.not_not] at hc46
    refine wp_exit ?_
    refine wp_seq ?_
    refine wp_region_lit ?_
    refine s_val rfl rfl (v_move rfl hs13) ?_
    refine s_val rfl rfl (v_sub rfl rfl rfl (by omega) (by omega)) ?_
    refine s_val rfl rfl (v_assign rfl rfl) ?_
    refine wpList_nil ?_
    refine wp_region_lit ?_
    refine s_val rfl rfl (v_move rfl rfl) ?_
    refine s_val rfl rfl (v_move rfl hs1) ?_
    refine s_val rfl rfl (v_idxStr rfl rfl rfl Tryz.underlying9 (by omega) (by show _ < (36 : Int); omega)) ?_
    refine s_val rfl rfl (v_iaA Tryz.underlying360 szA rfl hs12 rfl (by decide) (by decide)) ?_
    refine s_store1 (v := .int .u8 (hexd (m)).toNat) cx 0 rfl rfl rfl rfl (congrArg (Value.int .u8) (digs (by omega))) rfl rfl rfl sz5 ?_; intro w cx hwS16
    refine wpList_nil ?_
    refine wp_seq ?_
    refine wp_seq ?_
    refine wp_region_lit ?_
    refine s_val rfl rfl (v_move rfl hs3) ?_
    refine wpList_nil ?_
    refine wp_cond_false (show (St _ _).eval _ = _ by rw [eval_St]; rfl) ?_
    refine wp_skip ?_
    refine wp_seq ?_
    refine wp_seq ?_
    refine wp_region_lit ?_
    refine s_val rfl rfl (v_move rfl hs4) ?_
    refine wpList_nil ?_
    refine wp_cond_false (show (St _ _).eval _ = _ by rw [eval_St]; rfl) ?_
    refine wp_skip ?_
    refine wp_seq ?_
    refine wp_region_lit ?_
    refine s_val rfl rfl (v_move rfl rfl) ?_
    refine s_val rfl rfl (v_slA rfl hs12 rfl Tryz.underlying360 szA (by decide) (by decide)) ?_
    refine s_val rfl rfl (v_b2s rfl Tryz.underlying79 Tryz.underlying5 Tryz.underlying9 (ns := [((hexd m).toNat : Int)]) ((cx.row 0 rfl).sub 64 rfl) rfl rfl) ?_
    refine s_val rfl rfl (v_assign rfl rfl) ?_
    refine wpList_nil ?_
    refine wp_ret ?_
    refine ret_tmp2 Tryz.results216 hs10 rfl ?_
    refine ⟨cx.ext, _, congrArg (fun z => Value.tuple #[_, Value.string z]) ?_⟩
    rw [strOf_a]
    unfold hexs
    rw [if_pos (by omega)]

set_option maxHeartbeats 4000000 in
set_option maxRecDepth 10000 in
theorem c216b (m : Nat) (w0 : World) (hm : 16 ≤ m) (hm2 : m < 256) (ht : Tabs w0) : Fc Tryz.prog 216 [.slice none 0 0, .int .u64 m, .int .i64 16, .bool false, .bool false] w0 (fun v _ => ∃ x, v = .tuple #[x, .string (bs (hexs m))]) := by
  refine ret_enter Tryz.func216 rfl Tryz.ntmps216 rfl ?_
  have cx := Ctx.start w0
  refine wp_seq ?_
  refine wp_region_lit ?_
  refine s_val rfl rfl (v_assign rfl rfl) ?_
  refine s_val rfl rfl (v_assign rfl rfl) ?_
  refine wpList_nil ?_
  refine wp_seq ?_
  refine wp_seq ?_
  refine wp_region_lit ?_
  refine s_val rfl rfl (v_move rfl rfl) ?_
  refine s_val rfl rfl (v_cmp rfl rfl rfl rfl) ?_
  refine s_val rfl rfl (v_move rfl rfl) ?_
  refine s_gval rfl rfl rfl (by first | exact w_ff rfl | exact w_gf rfl) (fun hc => v_move rfl (by first | exact gve hc rfl | exact gve (and_l hc) rfl | exact gve (and_l (and_l hc)) rfl | rfl)) ?_
  refine s_gval rfl rfl rfl (by first | exact w_ff rfl | exact w_gf rfl) (fun hc => v_cmp rfl (by first | exact gve hc rfl | exact gve (and_l hc) rfl | exact gve (and_l (and_l hc)) rfl | rfl) rfl rfl) ?_
  refine s_val rfl rfl (v_or rfl rfl rfl rfl) ?_
  refine s_val rfl rfl (v_move rfl rfl) ?_
  refine s_gval rfl rfl rfl (by first | exact w_ff rfl | exact w_gf rfl) (fun hc => v_move rfl (by first | exact gve hc rfl | exact gve (and_l hc) rfl | exact gve (and_l (and_l hc)) rfl | rfl)) ?_
  refine s_gval rfl rfl rfl (by first | exact w_ff rfl | exact w_gf rfl) (fun hc => v_cmp rfl (by first | exact gve hc rfl | exact gve (and_l hc) rfl | exact gve (and_l (and_l hc)) rfl | rfl) rfl rfl) ?_
  refine s_val rfl rfl (v_or rfl rfl rfl rfl) ?_
  refine wpList_nil ?_
  refine wp_cond_false (show (St _ _).eval _ = _ by rw [eval_St]; rfl) ?_
  refine wp_skip ?_
  refine wp_seq ?_
  refine wp_region_lit ?_
  refine s_alloc cx zA rfl rfl rfl ?_; intro b12 w cx hb12 hw12
  refine wpList_nil ?_
  refine wp_seq ?_
  refine wp_region_lit ?_
  refine s_val rfl rfl (v_assign rfl rfl) ?_
  refine wpList_nil ?_
  refine wp_seq ?_
  refine wp_seq ?_
  refine wp_region_lit ?_
  refine s_val rfl rfl (v_move rfl rfl) ?_
  refine wpList_nil ?_
  refine wp_cond_false (show (St _ _).eval _ = _ by rw [eval_St]; rfl) ?_
  refine wp_skip ?_
  refine wp_seq ?_
  refine wp_seq ?_
  refine wp_region_lit ?_
  refine s_val rfl rfl (v_move rfl rfl) ?_
  refine s_fnB cx (c292 _) Tryz.func292 rfl rfl rfl rfl rfl rfl ?_; intro q34 w cx hw34 hp34
  subst hp34
  refine wpList_nil ?_
  refine wp_cond_true (show (St _ _).eval _ = _ by rw [eval_St]; rfl) ?_
  refine wp_seq ?_
  refine wp_region_lit ?_
  refine s_val rfl rfl (v_move rfl rfl) ?_
  refine s_val rfl rfl (v_conv rfl rfl Tryz.underlying3 Tryz.underlying237) ?_
  refine s_fnI cx (c293 _ (ht.up cx.ext)) Tryz.func293 rfl rfl rfl rfl rfl rfl ?_; intro q37 w cx hw37 hp37
  subst hp37
  refine s_val rfl rfl (v_conv rfl rfl Tryz.underlying3 Tryz.underlying237) ?_
  refine s_val rfl rfl (v_assign rfl rfl) ?_
  refine wpList_nil ?_
  refine wp_seq ?_
  refine wp_region_lit ?_
  refine s_val rfl rfl (v_move rfl rfl) ?_
  refine s_val rfl rfl (v_conv rfl rfl Tryz.underlying3 Tryz.underlying299) ?_
  refine s_val rfl rfl (v_assign rfl rfl) ?_
  refine wpList_nil ?_
  refine wp_seq ?_
  refine wp_region_lit ?_
  refine s_val rfl rfl (v_move rfl rfl) ?_
  refine s_val rfl rfl (v_conv rfl rfl Tryz.underlying3 Tryz.underlying237) ?_
  refine s_val rfl rfl (v_subK rfl rfl rfl) ?_
  refine s_val rfl rfl (v_assign rfl rfl) ?_
  refine wpList_nil ?_
  refine wp_seq ?_
  refine wp_block ?_
  refine w_loop (fun k f w1 => ∃ (u : Nat) (cs : List Value), ((k = 1 ∧ m = u ∧ cs = List.replicate 65 (Value.int .u8 0)) ∨ (k = 0 ∧ m / 16 = u ∧ cs = (List.replicate 65 (Value.int .u8 0)).set 64 (.int .u8 (hexd (m % 16)).toNat))) ∧ f 1 = .int .u64 u ∧ f 13 = .int .i64 ((64 + k : Nat) : Int) ∧ (∃ b12, f 12 = .pointer (some ⟨b12, 0, none⟩) ∧ Ctx w0 w1 [(b12, .cells cs.toArray 360)]) ∧ f 15 = .int .u64 16 ∧ f 16 = .int .u64 15 ∧ f 14 = .int .u64 4 ∧ f 3 = .bool false ∧ f 4 = .bool false ∧ f 10 = .slice none 0 0) (1) ?_ ?_
  · skip
    exact ⟨m, _, .inl ⟨rfl, rfl, rfl⟩, rfl, rfl, ⟨_, rfl, cx⟩, rfl, rfl, rfl, rfl, rfl, rfl⟩
  intro gk11 f w hJ
  obtain ⟨u, cs, hcase, hs1, hs13, ⟨b12, hs12, cx⟩, hs15, hs16, hs14, hs3, hs4, hs10⟩ := hJ
  refine wp_seq ?_
  refine wp_seq ?_
  refine wp_region_lit ?_
  refine s_val rfl rfl (v_move rfl hs1) ?_
  refine s_val rfl rfl (v_move rfl hs15) ?_
  refine s_val rfl rfl (v_cmp rfl rfl rfl rfl) ?_
  refine wpList_nil ?_
  refine c_split rfl (fun hc46 => ?_) (fun hc46 => ?_)
  · skip
    try simp only [Bool.and_eq_true, Bool.or_eq_true, Bool.and_eq_false_iff, Bool.or_eq_false_iff, Bool.not_eq_true', Bool.not_eq_false', decide_eq_true_eq, decide_eq_false_iff_not, beq_iff_eq, beq_eq_false_iff_ne, bne_iff_ne, bne_eq_false_iff_eq, ne_eq, Classical.not_not] at hc46
    rcases hcase with ⟨rfl, rfl, rfl⟩ | ⟨rfl, rfl, rfl⟩
    case inr => exfalso; omega
    refine wp_skip ?_
    refine wp_block ?_
    refine wp_seq ?_
    refine wp_region_lit ?_
    refine s_val rfl rfl (v_move rfl hs13) ?_
    refine s_val rfl rfl (v_sub rfl rfl rfl (by omega) (by omega)) ?_
    refine s_val rfl rfl (v_assign rfl rfl) ?_
    refine wpList_nil ?_
    refine wp_seq ?_
    refine wp_region_lit ?_
    refine s_val rfl rfl (v_move rfl rfl) ?_
    refine s_val rfl rfl (v_move rfl hs1) ?_
    refine s_val rfl rfl (v_move rfl hs16) ?_
    refine s_val rfl rfl (v_band rfl rfl rfl) ?_
    refine s_val rfl rfl (v_idxStr rfl rfl rfl Tryz.underlying9 (by rw [and15u (by omega)]; omega) (by rw [and15u (by omega)]; show _ < (36 : Int); omega)) ?_
    refine s_val rfl rfl (v_iaA Tryz.underlying360 szA rfl hs12 rfl (by decide) (by decide)) ?_
    refine s_store1 (v := .int .u8 (hexd (m % 16)).toNat) cx 0 rfl rfl rfl rfl (congrArg (Value.int .u8) (dig_and (by omega))) rfl rfl rfl sz5 ?_; intro w cx hwS13
    refine wpList_nil ?_
    refine wp_region_lit ?_
    refine s_val rfl rfl (v_move rfl hs1) ?_
    refine s_val rfl rfl (v_move rfl hs14) ?_
    refine s_val rfl rfl (v_shr rfl rfl rfl (by decide)) ?_
    refine s_val rfl rfl (v_assign rfl rfl) ?_
    refine wpList_nil ?_
    refine ⟨0, _, by omega, rfl, m / 16, _, .inr ⟨rfl, rfl, rfl⟩, congrArg (Value.int .u64) (shr4u (by omega)), rfl, ⟨_, hs12, cx⟩, hs15, hs16, hs14, hs3, hs4, hs10⟩
  · skip
    try simp only [Bool.and_eq_true, Bool.or_eq_true, Bool.and_eq_false_iff, Bool.or_eq_false_iff, Bool.not_eq_true', Bool.not_eq_false', decide_eq_true_eq, decide_eq_false_iff_not, beq_iff_eq, beq_eq_false_iff_ne, bne_iff_ne, bne_eq_false_iff_eq, ne_eq, Classical.not_not] at hc46
    rcases hcase with ⟨rfl, rfl, rfl⟩ | ⟨rfl, rfl, rfl⟩
    case inl => exfalso; omega
    refine wp_exit ?_
    refine wp_seq ?_
    refine wp_region_lit ?_
    refine s_val rfl rfl (v_move rfl hs13) ?_
    refine s_val rfl rfl (v_sub rfl rfl rfl (by omega) (by omega)) ?_
    refine s_val rfl rfl (v_assign rfl rfl) ?_
    refine wpList_nil ?_
    refine wp_region_lit ?_
    refine s_val rfl rfl (v_move rfl rfl) ?_
    refine s_val rfl rfl (v_move rfl hs1) ?_
    refine s_val rfl rfl (v_idxStr rfl rfl rfl Tryz.underlying9 (by omega) (by show _ < (36 : Int); omega)) ?_
    refine s_val rfl rfl (v_iaA Tryz.underlying360 szA rfl hs12 rfl (by decide) (by decide)) ?_
    refine s_store1 (v := .int .u8 (hexd (m / 16)).toNat) cx 0 rfl rfl rfl rfl (congrArg (Value.int .u8) (digs (by omega))) rfl rfl rfl sz5 ?_; intro w cx hwS16
    refine wpList_nil ?_
    refine wp_seq ?_
    refine wp_seq ?_
    refine wp_region_lit ?_
    refine s_val rfl rfl (v_move rfl hs3) ?_
    refine wpList_nil ?_
    refine wp_cond_false (show (St _ _).eval _ = _ by rw [eval_St]; rfl) ?_
    refine wp_skip ?_
    refine wp_seq ?_
    refine wp_seq ?_
    refine wp_region_lit ?_
    refine s_val rfl rfl (v_move rfl hs4) ?_
    refine wpList_nil ?_
    refine wp_cond_false (show (St _ _).eval _ = _ by rw [eval_St]; rfl) ?_
    refine wp_skip ?_
    refine wp_seq ?_
    refine wp_region_lit ?_
    refine s_val rfl rfl (v_move rfl rfl) ?_
    refine s_val rfl rfl (v_slA rfl hs12 rfl Tryz.underlying360 szA (by decide) (by decide)) ?_
    refine s_val rfl rfl (v_b2s rfl Tryz.underlying79 Tryz.underlying5 Tryz.underlying9 (ns := [((hexd (m / 16)).toNat : Int), ((hexd (m % 16)).toNat : Int)]) ((cx.row 0 rfl).sub 63 rfl) rfl rfl) ?_
    refine s_val rfl rfl (v_assign rfl rfl) ?_
    refine wpList_nil ?_
    refine wp_ret ?_
    refine ret_tmp2 Tryz.results216 hs10 rfl ?_
    refine ⟨cx.ext, _, congrArg (fun z => Value.tuple #[_, Value.string z]) ?_⟩
    rw [strOf_ab]
    unfold hexs
    rw [if_neg (by omega)]

theorem c216 (m : Nat) (w0 : World) (hm2 : m < 256) (ht : Tabs w0) : Fc Tryz.prog 216 [.slice none 0 0, .int .u64 m, .int .i64 16, .bool false, .bool false] w0 (fun v _ => ∃ x, v = .tuple #[x, .string (bs (hexs m))]) := by
  by_cases h : m < 16
  · exact c216a m w0 h ht
  · exact c216b m w0 (by omega) hm2 ht
theorem wrap64 {m : Nat} (h : m < 256) : IntKind.u64.wrap (m : Int) = (m : Int) := by simp [IntKind.wrap, IntKind.signed, IntKind.bits]; omega
set_option maxHeartbeats 4000000 in
set_option maxRecDepth 10000 in
theorem c153 (m : Nat) (w0 : World) (hm : m < 256) (ht : Tabs w0) : Fc Tryz.prog 153 [.int .i64 m, .int .i64 16] w0 (fun v _ => v = .string (bs (hexs m))) := by
  refine ret_enter Tryz.func153 rfl Tryz.ntmps153 rfl ?_
  have cx := Ctx.start w0
  refine wp_seq ?_
  refine wp_region_lit ?_
  refine s_val rfl rfl (v_assign rfl rfl) ?_
  refine wpList_nil ?_
  refine wp_seq ?_
  refine wp_seq ?_
  refine wp_region_lit ?_
  refine s_val rfl rfl (v_move rfl rfl) ?_
  refine s_val rfl rfl (v_cmp rfl rfl rfl rfl) ?_
  refine wpList_nil ?_
  refine wp_cond_false (show (St _ _).eval _ = _ by rw [eval_St]; rfl) ?_
  refine wp_skip ?_
  refine wp_seq ?_
  refine wp_region_lit ?_
  refine s_val rfl rfl (v_move rfl rfl) ?_
  refine s_val rfl rfl (v_cw64 rfl rfl Tryz.underlying2 Tryz.underlying299 hm) ?_
  refine s_val rfl rfl (v_move rfl rfl) ?_
  refine s_val rfl rfl (v_move rfl rfl) ?_
  refine s_val rfl rfl (v_cmpF rfl rfl rfl (by omega)) ?_
  refine s_fn cx (c216 _ _ hm (ht.up cx.ext)) Tryz.func216 rfl rfl rfl rfl rfl rfl ?_; intro q50 w cx hw50 hp50
  obtain ⟨ex50, rfl⟩ := hp50
  refine s_val rfl rfl (v_move rfl rfl) ?_
  refine s_val rfl rfl (v_extract rfl rfl rfl) ?_
  refine s_val rfl rfl (v_extract rfl rfl rfl) ?_
  refine s_val rfl rfl (v_assign rfl rfl) ?_
  refine s_val rfl rfl (v_assign rfl rfl) ?_
  refine wpList_nil ?_
  refine wp_seq ?_
  refine wp_region_lit ?_
  refine s_val rfl rfl (v_move rfl rfl) ?_
  refine s_val rfl rfl (v_assign rfl rfl) ?_
  refine wpList_nil ?_
  refine wp_ret ?_
  refine ret_tmp Tryz.results153 rfl ?_
  exact ⟨cx.ext, rfl⟩

set_option maxHeartbeats 4000000 in
set_option maxRecDepth 10000 in
theorem c151n (m : Nat) (w0 : World) (hm : m < 256) (ht : Tabs w0) : Fc Tryz.prog 151 [.int .i64 m, .int .i64 16] w0 (fun v _ => v = .string (bs (hexs m))) := by
  refine ret_enter Tryz.func151 rfl Tryz.ntmps151 rfl ?_
  have cx := Ctx.start w0
  refine wp_seq ?_
  refine wp_region_lit ?_
  refine s_val rfl rfl (v_assign rfl rfl) ?_
  refine wpList_nil ?_
  refine wp_seq ?_
  refine wp_region_lit ?_
  refine s_val rfl rfl (v_move rfl rfl) ?_
  refine s_val rfl rfl (v_move rfl rfl) ?_
  refine s_fn cx (c153 _ _ hm (ht.up cx.ext)) Tryz.func153 rfl rfl rfl rfl rfl rfl ?_; intro q7 w cx hw7 hp7
  subst hp7
  refine s_val rfl rfl (v_assign rfl rfl) ?_
  refine wpList_nil ?_
  refine wp_ret ?_
  refine ret_tmp Tryz.results151 rfl ?_
  exact ⟨cx.ext, rfl⟩

theorem c151 (m : Int) (w0 : World) (ht : Tabs w0) (h0 : 0 ≤ m) (hm : m < 256) : Fc Tryz.prog 151 [.int .i64 m, .int .i64 16] w0 (fun v _ => v = .string (bs (hexs m.toNat))) := by
  have h := c151n m.toNat w0 (by omega) ht
  rw [show ((m.toNat : Nat) : Int) = m by omega] at h
  exact h
end Go.Proofs.YthiafbkolhnadaaGreatDoor
