/-
  Several texts in one: Ru, Gi, Gd, Pu, Rv, Pg, Ph, Ry
-/
import Derived.Test.YthiafbkolhnadaaGreatDoorTE
import Derived.Lib.SplitLaws
section
set_option linter.unusedSimpArgs false
set_option linter.unusedVariables false
namespace Go.Proofs.YthiafbkolhnadaaGreatDoor
open Go Go.Dk Go.RowKit Go.Lib
attribute [local irreducible] Go.wpList Go.Code.wp Go.bodyPost Go.wpStill Go.wpQuiet
set_option maxHeartbeats 4000000 in
set_option maxRecDepth 10000 in
theorem c254s (x : UInt8) (r : Int) (y : List UInt8) (hx : ((x.toNat : Int) = 34 ∧ r = 34) ∨ ((x.toNat : Int) = 92 ∧ r = 92) ∨ ((x.toNat : Int) = 110 ∧ r = 10) ∨ ((x.toNat : Int) = 116 ∧ r = 9) ∨ ((x.toNat : Int) = 114 ∧ r = 13)) (w0 : World) : Fc Tryz.prog 254 [.string (bs (x :: y))] w0 (fun v _ => v = .tuple #[.int .u8 r, .int .i64 1]) := by
  refine ret_enter Tryz.func254 rfl Tryz.ntmps254 rfl ?_
  have cx := Ctx.start w0
  refine wp_seq ?_
  refine wp_region_lit ?_
  refine s_val rfl rfl (v_assign rfl rfl) ?_
  refine s_val rfl rfl (v_assign rfl rfl) ?_
  refine wpList_nil ?_
  refine wp_seq ?_
  refine wp_seq ?_
  refine wp_region_lit ?_
  refine s_val rfl rfl (v_move rfl rfl) ?_
  refine s_val rfl rfl (v_eqB (s := x :: y) (u := []) rfl rfl rfl) ?_
  refine wpList_nil ?_
  refine c_split rfl (fun hc8 => ?_) (fun hc8 => ?_)
  · skip
    simp at hc8
  · skip
    try simp only [Bool.and_eq_true, Bool.or_eq_true, Bool.and_eq_false_iff, Bool.or_eq_false_iff, Bool.not_eq_true', Bool.not_eq_false', decide_eq_true_eq, decide_eq_false_iff_not, beq_iff_eq, beq_eq_false_iff_ne, bne_iff_ne, bne_eq_false_iff_eq, ne_eq, Classical.not_not] at hc8
    refine wp_skip ?_
    refine wp_seq ?_
    refine wp_seq ?_
    refine wp_region_lit ?_
    refine s_val rfl rfl (v_move rfl rfl) ?_
    refine s_val rfl rfl ((show (execOp _ _).run _ _ = .ok (.value (.int .u8 ((x.toNat : Nat) : Int))) _ from v_idxB (s := (x :: y)) (m := 0) rfl rfl rfl Tryz.underlying9 (by omega) (by simp only [List.length_cons]; omega))) ?_
    refine wpList_nil ?_
    refine wp_block ?_
    refine wp_seq ?_
    refine wp_seq ?_
    refine wp_region_lit ?_
    refine s_val rfl rfl (v_cmp rfl rfl rfl rfl) ?_
    refine s_val rfl rfl (v_assign rfl rfl) ?_
    refine wpList_nil ?_
    refine c_split rfl (fun hc11 => ?_) (fun hc11 => ?_)
    · skip
      try simp only [Bool.and_eq_true, Bool.or_eq_true, Bool.and_eq_false_iff, Bool.or_eq_false_iff, Bool.not_eq_true', Bool.not_eq_false', decide_eq_true_eq, decide_eq_false_iff_not, beq_iff_eq, beq_eq_false_iff_ne, bne_iff_ne, bne_eq_false_iff_eq, ne_eq, Classical.not_not] at hc11
      refine wp_skip ?_
      refine c_split rfl (fun hc11 => ?_) (fun hc11 => ?_)
      · skip
        try simp only [Bool.and_eq_true, Bool.or_eq_true, Bool.and_eq_false_iff, Bool.or_eq_false_iff, Bool.not_eq_true', Bool.not_eq_false', decide_eq_true_eq, decide_eq_false_iff_not, beq_iff_eq, beq_eq_false_iff_ne, bne_iff_ne, bne_eq_false_iff_eq, ne_eq, Classical.not_not] at hc11
        refine wp_seq ?_
        refine wp_region_lit ?_
        refine s_val rfl rfl (v_move rfl rfl) ?_
        refine s_val rfl rfl ((show (execOp _ _).run _ _ = .ok (.value (.int .u8 ((x.toNat : Nat) : Int))) _ from v_idxB (s := (x :: y)) (m := 0) rfl rfl rfl Tryz.underlying9 (by omega) (by simp only [List.length_cons]; omega))) ?_
        refine s_val rfl rfl (v_assign rfl rfl) ?_
        refine s_val rfl rfl (v_assign rfl rfl) ?_
        refine wpList_nil ?_
        refine wp_ret ?_
        refine ret_tmp2 Tryz.results254 rfl rfl ?_
        have e : r = (x.toNat : Int) := by omega
        subst e
        exact ⟨cx.ext, rfl⟩
      · skip
        try simp only [Bool.and_eq_true, Bool.or_eq_true, Bool.and_eq_false_iff, Bool.or_eq_false_iff, Bool.not_eq_true', Bool.not_eq_false', decide_eq_true_eq, decide_eq_false_iff_not, beq_iff_eq, beq_eq_false_iff_ne, bne_iff_ne, bne_eq_false_iff_eq, ne_eq, Classical.not_not] at hc11
        refine wp_seq ?_
        refine wp_region_lit ?_
        refine s_val rfl rfl (v_cmp rfl rfl rfl rfl) ?_
        refine s_val rfl rfl (v_assign rfl rfl) ?_
        refine wpList_nil ?_
        refine c_split rfl (fun hc16 => ?_) (fun hc16 => ?_)
        · skip
          try simp only [Bool.and_eq_true, Bool.or_eq_true, Bool.and_eq_false_iff, Bool.or_eq_false_iff, Bool.not_eq_true', Bool.not_eq_false', decide_eq_true_eq, decide_eq_false_iff_not, beq_iff_eq, beq_eq_false_iff_ne, bne_iff_ne, bne_eq_false_iff_eq, ne_eq, Classical.not_not] at hc16
          refine wp_seq ?_
          refine wp_region_lit ?_
          refine s_val rfl rfl (v_assign rfl rfl) ?_
          refine s_val rfl rfl (v_assign rfl rfl) ?_
          refine wpList_nil ?_
          refine wp_ret ?_
          refine ret_tmp2 Tryz.results254 rfl rfl ?_
          have e : r = 10 := by omega
          subst e
          exact ⟨cx.ext, rfl⟩
        · skip
          try simp only [Bool.and_eq_true, Bool.or_eq_true, Bool.and_eq_false_iff, Bool.or_eq_false_iff, Bool.not_eq_true', Bool.not_eq_false', decide_eq_true_eq, decide_eq_false_iff_not, beq_iff_eq, beq_eq_false_iff_ne, bne_iff_ne, bne_eq_false_iff_eq, ne_eq, Classical.not_not] at hc16
          refine wp_seq ?_
          refine wp_region_lit ?_
          refine s_val rfl rfl (v_cmp rfl rfl rfl rfl) ?_
          refine s_val rfl rfl (v_assign rfl rfl) ?_
          refine wpList_nil ?_
          refine c_split rfl (fun hc18 => ?_) (fun hc18 => ?_)
          · skip
            try simp only [Bool.and_eq_true, Bool.or_eq_true, Bool.and_eq_false_iff, Bool.or_eq_false_iff, Bool.not_eq_true', Bool.not_eq_false', decide_eq_true_eq, decide_eq_false_iff_not, beq_iff_eq, beq_eq_false_iff_ne, bne_iff_ne, bne_eq_false_iff_eq, ne_eq, Classical.not_not] at hc18
            refine wp_seq ?_
            refine wp_region_lit ?_
            refine s_val rfl rfl (v_assign rfl rfl) ?_
            refine s_val rfl rfl (v_assign rfl rfl) ?_
            refine wpList_nil ?_
            refine wp_ret ?_
            refine ret_tmp2 Tryz.results254 rfl rfl ?_
            have e : r = 9 := by omega
            subst e
            exact ⟨cx.ext, rfl⟩
          · skip
            try simp only [Bool.and_eq_true, Bool.or_eq_true, Bool.and_eq_false_iff, Bool.or_eq_false_iff, Bool.not_eq_true', Bool.not_eq_false', decide_eq_true_eq, decide_eq_false_iff_not, beq_iff_eq, beq_eq_false_iff_ne, bne_iff_ne, bne_eq_false_iff_eq, ne_eq, Classical.not_not] at hc18
            refine wp_seq ?_
            refine wp_region_lit ?_
            refine s_val rfl rfl (v_cmp rfl rfl rfl rfl) ?_
            refine s_val rfl rfl (v_assign rfl rfl) ?_
            refine wpList_nil ?_
            refine c_split rfl (fun hc20 => ?_) (fun hc20 => ?_)
            · skip
              try simp only [Bool.and_eq_true, Bool.or_eq_true, Bool.and_eq_false_iff, Bool.or_eq_false_iff, Bool.not_eq_true', Bool.not_eq_false', decide_eq_true_eq, decide_eq_false_iff_not, beq_iff_eq, beq_eq_false_iff_ne, bne_iff_ne, bne_eq_false_iff_eq, ne_eq, Classical.not_not] at hc20
              refine wp_seq ?_
              refine wp_region_lit ?_
              refine s_val rfl rfl (v_assign rfl rfl) ?_
              refine s_val rfl rfl (v_assign rfl rfl) ?_
              refine wpList_nil ?_
              refine wp_ret ?_
              refine ret_tmp2 Tryz.results254 rfl rfl ?_
              have e : r = 13 := by omega
              subst e
              exact ⟨cx.ext, rfl⟩
            · skip
              try simp only [Bool.and_eq_true, Bool.or_eq_true, Bool.and_eq_false_iff, Bool.or_eq_false_iff, Bool.not_eq_true', Bool.not_eq_false', decide_eq_true_eq, decide_eq_false_iff_not, beq_iff_eq, beq_eq_false_iff_ne, bne_iff_ne, bne_eq_false_iff_eq, ne_eq, Classical.not_not] at hc20
              refine wp_seq ?_
              refine wp_region_lit ?_
              refine s_val rfl rfl (v_cmp rfl rfl rfl rfl) ?_
              refine s_val rfl rfl (v_assign rfl rfl) ?_
              refine wpList_nil ?_
              refine c_split rfl (fun hc22 => ?_) (fun hc22 => ?_)
              · skip
                try simp only [Bool.and_eq_true, Bool.or_eq_true, Bool.and_eq_false_iff, Bool.or_eq_false_iff, Bool.not_eq_true', Bool.not_eq_false', decide_eq_true_eq, decide_eq_false_iff_not, beq_iff_eq, beq_eq_false_iff_ne, bne_iff_ne, bne_eq_false_iff_eq, ne_eq, Classical.not_not] at hc22
                exfalso
                omega
              · skip
                try simp only [Bool.and_eq_true, Bool.or_eq_true, Bool.and_eq_false_iff, Bool.or_eq_false_iff, Bool.not_eq_true', Bool.not_eq_false', decide_eq_true_eq, decide_eq_false_iff_not, beq_iff_eq, beq_eq_false_iff_ne, bne_iff_ne, bne_eq_false_iff_eq, ne_eq, Classical.not_not] at hc22
                refine wp_skip ?_
                refine wp_seq ?_
                refine wp_region_lit ?_
                refine s_val rfl rfl (v_assign rfl rfl) ?_
                refine s_val rfl rfl (v_assign rfl rfl) ?_
                refine wpList_nil ?_
                refine wp_ret ?_
                refine ret_tmp2 Tryz.results254 rfl rfl ?_
                exfalso
                omega
    · skip
      try simp only [Bool.and_eq_true, Bool.or_eq_true, Bool.and_eq_false_iff, Bool.or_eq_false_iff, Bool.not_eq_true', Bool.not_eq_false', decide_eq_true_eq, decide_eq_false_iff_not, beq_iff_eq, beq_eq_false_iff_ne, bne_iff_ne, bne_eq_false_iff_eq, ne_eq, Classical.not_not] at hc11
      refine wp_region_lit ?_
      refine s_val rfl rfl (v_cmp rfl rfl rfl rfl) ?_
      refine s_val rfl rfl (v_assign rfl rfl) ?_
      refine wpList_nil ?_
      refine c_split rfl (fun hc11 => ?_) (fun hc11 => ?_)
      · skip
        try simp only [Bool.and_eq_true, Bool.or_eq_true, Bool.and_eq_false_iff, Bool.or_eq_false_iff, Bool.not_eq_true', Bool.not_eq_false', decide_eq_true_eq, decide_eq_false_iff_not, beq_iff_eq, beq_eq_false_iff_ne, bne_iff_ne, bne_eq_false_iff_eq, ne_eq, Classical.not_not] at hc11
        refine wp_seq ?_
        refine wp_region_lit ?_
        refine s_val rfl rfl (v_move rfl rfl) ?_
        refine s_val rfl rfl ((show (execOp _ _).run _ _ = .ok (.value (.int .u8 ((x.toNat : Nat) : Int))) _ from v_idxB (s := (x :: y)) (m := 0) rfl rfl rfl Tryz.underlying9 (by omega) (by simp only [List.length_cons]; omega))) ?_
        refine s_val rfl rfl (v_assign rfl rfl) ?_
        refine s_val rfl rfl (v_assign rfl rfl) ?_
        refine wpList_nil ?_
        refine wp_ret ?_
        refine ret_tmp2 Tryz.results254 rfl rfl ?_
        have e : r = (x.toNat : Int) := by omega
        subst e
        exact ⟨cx.ext, rfl⟩
      · skip
        try simp only [Bool.and_eq_true, Bool.or_eq_true, Bool.and_eq_false_iff, Bool.or_eq_false_iff, Bool.not_eq_true', Bool.not_eq_false', decide_eq_true_eq, decide_eq_false_iff_not, beq_iff_eq, beq_eq_false_iff_ne, bne_iff_ne, bne_eq_false_iff_eq, ne_eq, Classical.not_not] at hc11
        refine wp_seq ?_
        refine wp_region_lit ?_
        refine s_val rfl rfl (v_cmp rfl rfl rfl rfl) ?_
        refine s_val rfl rfl (v_assign rfl rfl) ?_
        refine wpList_nil ?_
        refine c_split rfl (fun hc16 => ?_) (fun hc16 => ?_)
        · skip
          try simp only [Bool.and_eq_true, Bool.or_eq_true, Bool.and_eq_false_iff, Bool.or_eq_false_iff, Bool.not_eq_true', Bool.not_eq_false', decide_eq_true_eq, decide_eq_false_iff_not, beq_iff_eq, beq_eq_false_iff_ne, bne_iff_ne, bne_eq_false_iff_eq, ne_eq, Classical.not_not] at hc16
          refine wp_seq ?_
          refine wp_region_lit ?_
          refine s_val rfl rfl (v_assign rfl rfl) ?_
          refine s_val rfl rfl (v_assign rfl rfl) ?_
          refine wpList_nil ?_
          refine wp_ret ?_
          refine ret_tmp2 Tryz.results254 rfl rfl ?_
          have e : r = 10 := by omega
          subst e
          exact ⟨cx.ext, rfl⟩
        · skip
          try simp only [Bool.and_eq_true, Bool.or_eq_true, Bool.and_eq_false_iff, Bool.or_eq_false_iff, Bool.not_eq_true', Bool.not_eq_false', decide_eq_true_eq, decide_eq_false_iff_not, beq_iff_eq, beq_eq_false_iff_ne, bne_iff_ne, bne_eq_false_iff_eq, ne_eq, Classical.not_not] at hc16
          refine wp_seq ?_
          refine wp_region_lit ?_
          refine s_val rfl rfl (v_cmp rfl rfl rfl rfl) ?_
          refine s_val rfl rfl (v_assign rfl rfl) ?_
          refine wpList_nil ?_
          refine c_split rfl (fun hc18 => ?_) (fun hc18 => ?_)
          · skip
            try simp only [Bool.and_eq_true, Bool.or_eq_true, Bool.and_eq_false_iff, Bool.or_eq_false_iff, Bool.not_eq_true', Bool.not_eq_false', decide_eq_true_eq, decide_eq_false_iff_not, beq_iff_eq, beq_eq_false_iff_ne, bne_iff_ne, bne_eq_false_iff_eq, ne_eq, Classical.not_not] at hc18
            refine wp_seq ?_
            refine wp_region_lit ?_
            refine s_val rfl rfl (v_assign rfl rfl) ?_
            refine s_val rfl rfl (v_assign rfl rfl) ?_
            refine wpList_nil ?_
            refine wp_ret ?_
            refine ret_tmp2 Tryz.results254 rfl rfl ?_
            have e : r = 9 := by omega
            subst e
            exact ⟨cx.ext, rfl⟩
          · skip
            try simp only [Bool.and_eq_true, Bool.or_eq_true, Bool.and_eq_false_iff, Bool.or_eq_false_iff, Bool.not_eq_true', Bool.not_eq_false', decide_eq_true_eq, decide_eq_false_iff_not, beq_iff_eq, beq_eq_false_iff_ne, bne_iff_ne, bne_eq_false_iff_eq, ne_eq, Classical.not_not] at hc18
            refine wp_seq ?_
            refine wp_region_lit ?_
            refine s_val rfl rfl (v_cmp rfl rfl rfl rfl) ?_
            refine s_val rfl rfl (v_assign rfl rfl) ?_
            refine wpList_nil ?_
            refine c_split rfl (fun hc20 => ?_) (fun hc20 => ?_)
            · skip
              try simp only [Bool.and_eq_true, Bool.or_eq_true, Bool.and_eq_false_iff, Bool.or_eq_false_iff, Bool.not_eq_true', Bool.not_eq_false', decide_eq_true_eq, decide_eq_false_iff_not, beq_iff_eq, beq_eq_false_iff_ne, bne_iff_ne, bne_eq_false_iff_eq, ne_eq, Classical.not_not] at hc20
              refine wp_seq ?_
              refine wp_region_lit ?_
              refine s_val rfl rfl (v_assign rfl rfl) ?_
              refine s_val rfl rfl (v_assign rfl rfl) ?_
              refine wpList_nil ?_
              refine wp_ret ?_
              refine ret_tmp2 Tryz.results254 rfl rfl ?_
              have e : r = 13 := by omega
              subst e
              exact ⟨cx.ext, rfl⟩
            · skip
              try simp only [Bool.and_eq_true, Bool.or_eq_true, Bool.and_eq_false_iff, Bool.or_eq_false_iff, Bool.not_eq_true', Bool.not_eq_false', decide_eq_true_eq, decide_eq_false_iff_not, beq_iff_eq, beq_eq_false_iff_ne, bne_iff_ne, bne_eq_false_iff_eq, ne_eq, Classical.not_not] at hc20
              refine wp_seq ?_
              refine wp_region_lit ?_
              refine s_val rfl rfl (v_cmp rfl rfl rfl rfl) ?_
              refine s_val rfl rfl (v_assign rfl rfl) ?_
              refine wpList_nil ?_
              refine c_split rfl (fun hc22 => ?_) (fun hc22 => ?_)
              · skip
                try simp only [Bool.and_eq_true, Bool.or_eq_true, Bool.and_eq_false_iff, Bool.or_eq_false_iff, Bool.not_eq_true', Bool.not_eq_false', decide_eq_true_eq, decide_eq_false_iff_not, beq_iff_eq, beq_eq_false_iff_ne, bne_iff_ne, bne_eq_false_iff_eq, ne_eq, Classical.not_not] at hc22
                exfalso
                omega
              · skip
                try simp only [Bool.and_eq_true, Bool.or_eq_true, Bool.and_eq_false_iff, Bool.or_eq_false_iff, Bool.not_eq_true', Bool.not_eq_false', decide_eq_true_eq, decide_eq_false_iff_not, beq_iff_eq, beq_eq_false_iff_ne, bne_iff_ne, bne_eq_false_iff_eq, ne_eq, Classical.not_not] at hc22
                refine wp_skip ?_
                refine wp_seq ?_
                refine wp_region_lit ?_
                refine s_val rfl rfl (v_assign rfl rfl) ?_
                refine s_val rfl rfl (v_assign rfl rfl) ?_
                refine wpList_nil ?_
                refine wp_ret ?_
                refine ret_tmp2 Tryz.results254 rfl rfl ?_
                exfalso
                omega
set_option maxHeartbeats 4000000 in
set_option maxRecDepth 10000 in
theorem c254u1 (h : UInt8) (n : Nat) (y : List UInt8) (hn : n < 32 ∨ n = 127) (hh : hexs n = [h]) (w0 : World) : Fc Tryz.prog 254 [.string (bs (117 :: 123 :: h :: 125 :: y))] w0 (fun v _ => v = .tuple #[.int .u8 n, .int .i64 4]) := by
  refine ret_enter Tryz.func254 rfl Tryz.ntmps254 rfl ?_
  have cx := Ctx.start w0
  refine wp_seq ?_
  refine wp_region_lit ?_
  refine s_val rfl rfl (v_assign rfl rfl) ?_
  refine s_val rfl rfl (v_assign rfl rfl) ?_
  refine wpList_nil ?_
  refine wp_seq ?_
  refine wp_seq ?_
  refine wp_region_lit ?_
  refine s_val rfl rfl (v_move rfl rfl) ?_
  refine s_val rfl rfl (v_eqB (s := (117 :: 123 :: h :: 125 :: y)) (u := []) rfl rfl rfl) ?_
  refine wpList_nil ?_
  refine c_split rfl (fun hc8 => ?_) (fun hc8 => ?_)
  · skip
    simp at hc8
  · skip
    try simp only [Bool.and_eq_true, Bool.or_eq_true, Bool.and_eq_false_iff, Bool.or_eq_false_iff, Bool.not_eq_true', Bool.not_eq_false', decide_eq_true_eq, decide_eq_false_iff_not, beq_iff_eq, beq_eq_false_iff_ne, bne_iff_ne, bne_eq_false_iff_eq, ne_eq, Classical.not_not] at hc8
    refine wp_skip ?_
    refine wp_seq ?_
    refine wp_seq ?_
    refine wp_region_lit ?_
    refine s_val rfl rfl (v_move rfl rfl) ?_
    refine s_val rfl rfl ((show (execOp _ _).run _ _ = .ok (.value (.int .u8 117)) _ from v_idxB (s := (117 :: 123 :: h :: 125 :: y)) (m := 0) rfl rfl rfl Tryz.underlying9 (by omega) (by simp only [List.length_cons]; omega))) ?_
    refine wpList_nil ?_
    refine wp_block ?_
    refine wp_seq ?_
    refine wp_seq ?_
    refine wp_region_lit ?_
    refine s_val rfl rfl (v_cmp rfl rfl rfl rfl) ?_
    refine s_val rfl rfl (v_assign rfl rfl) ?_
    refine wpList_nil ?_
    refine wp_cond_false (show (St _ _).eval _ = _ by rw [eval_St]; rfl) ?_
    refine wp_region_lit ?_
    refine s_val rfl rfl (v_cmp rfl rfl rfl rfl) ?_
    refine s_val rfl rfl (v_assign rfl rfl) ?_
    refine wpList_nil ?_
    refine wp_cond_false (show (St _ _).eval _ = _ by rw [eval_St]; rfl) ?_
    refine wp_seq ?_
    refine wp_region_lit ?_
    refine s_val rfl rfl (v_cmp rfl rfl rfl rfl) ?_
    refine s_val rfl rfl (v_assign rfl rfl) ?_
    refine wpList_nil ?_
    refine wp_cond_false (show (St _ _).eval _ = _ by rw [eval_St]; rfl) ?_
    refine wp_seq ?_
    refine wp_region_lit ?_
    refine s_val rfl rfl (v_cmp rfl rfl rfl rfl) ?_
    refine s_val rfl rfl (v_assign rfl rfl) ?_
    refine wpList_nil ?_
    refine wp_cond_false (show (St _ _).eval _ = _ by rw [eval_St]; rfl) ?_
    refine wp_seq ?_
    refine wp_region_lit ?_
    refine s_val rfl rfl (v_cmp rfl rfl rfl rfl) ?_
    refine s_val rfl rfl (v_assign rfl rfl) ?_
    refine wpList_nil ?_
    refine wp_cond_false (show (St _ _).eval _ = _ by rw [eval_St]; rfl) ?_
    refine wp_seq ?_
    refine wp_region_lit ?_
    refine s_val rfl rfl (v_cmp rfl rfl rfl rfl) ?_
    refine s_val rfl rfl (v_assign rfl rfl) ?_
    refine wpList_nil ?_
    refine wp_cond_true (show (St _ _).eval _ = _ by rw [eval_St]; rfl) ?_
    refine wp_seq ?_
    refine wp_region_lit ?_
    refine s_val rfl rfl (v_assign rfl rfl) ?_
    refine wpList_nil ?_
    refine wp_block ?_
    refine w_loop (fun k f w1 => ∃ m : Nat, k + m = 3 ∧ 3 ≤ m ∧ f 0 = .string (bs (117 :: 123 :: h :: 125 :: y)) ∧ f 4 = .int .i64 m ∧ Ctx w0 w1 []) (0) ?_ ?_
    · skip
      exact ⟨3, by omega, by omega, rfl, rfl, cx⟩
    intro gk15 f w hJ
    obtain ⟨m, hk, hm, hs0, hs4, cx⟩ := hJ
    refine wp_seq ?_
    refine wp_seq ?_
    refine wp_region_lit ?_
    refine s_val rfl rfl (v_move rfl hs4) ?_
    refine s_val rfl rfl (v_cmp rfl rfl rfl rfl) ?_
    refine s_val rfl rfl (v_move rfl rfl) ?_
    refine s_gval rfl rfl rfl (by first | exact w_tt rfl | exact w_gt rfl) (fun hc => v_move rfl hs4) ?_
    refine s_gval rfl rfl rfl (by first | exact w_tt rfl | exact w_gt rfl) (fun hc => v_move rfl hs0) ?_
    refine s_gval rfl rfl rfl (by first | exact w_tt rfl | exact w_gt rfl) (fun hc => v_lenB rfl (by first | exact gve hc rfl | exact gve (and_l hc) rfl | exact gve (and_l (and_l hc)) rfl | rfl) Tryz.underlying9) ?_
    refine s_gval rfl rfl rfl (by first | exact w_tt rfl | exact w_gt rfl) (fun hc => v_cmp rfl (by first | exact gve hc rfl | exact gve (and_l hc) rfl | exact gve (and_l (and_l hc)) rfl | rfl) (by first | exact gve hc rfl | exact gve (and_l hc) rfl | exact gve (and_l (and_l hc)) rfl | rfl) rfl) ?_
    refine s_val rfl rfl (v_and rfl rfl rfl rfl) ?_
    refine wpList_nil ?_
    refine c_split rfl (fun hc31 => ?_) (fun hc31 => ?_)
    · skip
      try simp only [Bool.and_eq_true, Bool.or_eq_true, Bool.and_eq_false_iff, Bool.or_eq_false_iff, Bool.not_eq_true', Bool.not_eq_false', decide_eq_true_eq, decide_eq_false_iff_not, beq_iff_eq, beq_eq_false_iff_ne, bne_iff_ne, bne_eq_false_iff_eq, ne_eq, Classical.not_not] at hc31
      refine wp_skip ?_
      refine wp_seq ?_
      refine wp_block ?_
      refine wp_seq ?_
      refine wp_region_lit ?_
      refine s_val rfl rfl (v_move rfl hs0) ?_
      refine s_val rfl rfl (v_idxB rfl rfl rfl Tryz.underlying9 (by omega) (by omega)) ?_
      refine s_val rfl rfl (v_cmp rfl rfl rfl rfl) ?_
      refine s_val rfl rfl (v_move rfl rfl) ?_
      refine s_gval rfl rfl rfl (by first | exact w_tt rfl | exact w_gt rfl) (fun hc => v_move rfl hs0) ?_
      refine s_gval rfl rfl rfl (by first | exact w_tt rfl | exact w_gt rfl) (fun hc => v_move rfl hs4) ?_
      refine s_gval rfl rfl rfl (by first | exact w_tt rfl | exact w_gt rfl) (fun hc => v_idxB rfl (by first | exact gve hc rfl | exact gve (and_l hc) rfl | exact gve (and_l (and_l hc)) rfl | rfl) (by first | exact gve hc rfl | exact gve (and_l hc) rfl | exact gve (and_l (and_l hc)) rfl | rfl) Tryz.underlying9 (by first | omega | (simp only [Bool.and_eq_true, Bool.or_eq_true, Bool.and_eq_false_iff, Bool.or_eq_false_iff, Bool.not_eq_true', Bool.not_eq_false', decide_eq_true_eq, decide_eq_false_iff_not, beq_iff_eq, beq_eq_false_iff_ne, bne_iff_ne, bne_eq_false_iff_eq, ne_eq, Classical.not_not] at hc; omega)) (by first | omega | (simp only [Bool.and_eq_true, Bool.or_eq_true, Bool.and_eq_false_iff, Bool.or_eq_false_iff, Bool.not_eq_true', Bool.not_eq_false', decide_eq_true_eq, decide_eq_false_iff_not, beq_iff_eq, beq_eq_false_iff_ne, bne_iff_ne, bne_eq_false_iff_eq, ne_eq, Classical.not_not] at hc; omega))) ?_
      refine s_gval rfl rfl rfl (by first | exact w_tt rfl | exact w_gt rfl) (fun hc => v_cmp rfl (by first | exact gve hc rfl | exact gve (and_l hc) rfl | exact gve (and_l (and_l hc)) rfl | rfl) rfl rfl) ?_
      refine s_val rfl rfl (v_and rfl rfl rfl rfl) ?_
      refine wpList_nil ?_
      refine c_split rfl (fun hc42 => ?_) (fun hc42 => ?_)
      · skip
        try simp only [Bool.and_eq_true, Bool.or_eq_true, Bool.and_eq_false_iff, Bool.or_eq_false_iff, Bool.not_eq_true', Bool.not_eq_false', decide_eq_true_eq, decide_eq_false_iff_not, beq_iff_eq, beq_eq_false_iff_ne, bne_iff_ne, bne_eq_false_iff_eq, ne_eq, Classical.not_not] at hc42
        obtain rfl : m = 3 := by omega
        refine wp_seq ?_
        refine wp_region_lit ?_
        refine s_val rfl rfl (v_move rfl hs0) ?_
        refine s_val rfl rfl (v_move rfl hs4) ?_
        refine s_val rfl rfl (v_cutMid rfl rfl rfl rfl Tryz.underlying9 (by omega) (by omega) (by omega)) ?_
        refine s_fn cx (c322 n hn _ hh _) Tryz.func322 rfl rfl rfl rfl rfl rfl ?_; intro q47 w cx hw47 hp47
        subst hp47
        refine s_val rfl rfl (v_move rfl rfl) ?_
        refine s_val rfl rfl (v_extract rfl rfl rfl) ?_
        refine s_val rfl rfl (v_extract rfl rfl rfl) ?_
        refine s_val rfl rfl (v_assign rfl rfl) ?_
        refine s_val rfl rfl (v_assign rfl rfl) ?_
        refine wpList_nil ?_
        refine wp_seq ?_
        refine wp_region_lit ?_
        refine s_val rfl rfl (v_move rfl rfl) ?_
        refine s_val rfl rfl (v_nilErr Tryz.underlying184 rfl rfl rfl) ?_
        refine wpList_nil ?_
        refine wp_cond_true (show (St _ _).eval _ = _ by rw [eval_St]; rfl) ?_
        refine wp_seq ?_
        refine wp_region_lit ?_
        refine s_val rfl rfl (v_move rfl rfl) ?_
        refine s_val rfl rfl (v_conv rfl rfl Tryz.underlying299 Tryz.underlying5) ?_
        refine s_val rfl rfl (v_move rfl hs4) ?_
        refine s_val rfl rfl (v_add rfl rfl rfl (by omega) (by omega)) ?_
        refine s_val rfl rfl (v_assign rfl rfl) ?_
        refine s_val rfl rfl (v_assign rfl rfl) ?_
        refine wpList_nil ?_
        refine wp_ret ?_
        refine ret_tmp2 Tryz.results254 rfl rfl ?_
        exact ⟨cx.ext, congrArg (fun z => Value.tuple #[.int .u8 z, .int .i64 4]) (u8_in (by omega))⟩
      · skip
        try simp only [Bool.and_eq_true, Bool.or_eq_true, Bool.and_eq_false_iff, Bool.or_eq_false_iff, Bool.not_eq_true', Bool.not_eq_false', decide_eq_true_eq, decide_eq_false_iff_not, beq_iff_eq, beq_eq_false_iff_ne, bne_iff_ne, bne_eq_false_iff_eq, ne_eq, Classical.not_not] at hc42
        obtain rfl : m = 3 := by omega
        exact absurd hc42 (by simp)
    · skip
      try simp only [Bool.and_eq_true, Bool.or_eq_true, Bool.and_eq_false_iff, Bool.or_eq_false_iff, Bool.not_eq_true', Bool.not_eq_false', decide_eq_true_eq, decide_eq_false_iff_not, beq_iff_eq, beq_eq_false_iff_ne, bne_iff_ne, bne_eq_false_iff_eq, ne_eq, Classical.not_not] at hc31
      exfalso
      simp only [List.length_cons] at hc31
      omega
set_option maxHeartbeats 4000000 in
set_option maxRecDepth 10000 in
theorem c254u2 (h g : UInt8) (n : Nat) (y : List UInt8) (hn : n < 32 ∨ n = 127) (hh : hexs n = [h, g]) (hg : (g.toNat : Int) ≠ 125) (w0 : World) : Fc Tryz.prog 254 [.string (bs (117 :: 123 :: h :: g :: 125 :: y))] w0 (fun v _ => v = .tuple #[.int .u8 n, .int .i64 5]) := by
  refine ret_enter Tryz.func254 rfl Tryz.ntmps254 rfl ?_
  have cx := Ctx.start w0
  refine wp_seq ?_
  refine wp_region_lit ?_
  refine s_val rfl rfl (v_assign rfl rfl) ?_
  refine s_val rfl rfl (v_assign rfl rfl) ?_
  refine wpList_nil ?_
  refine wp_seq ?_
  refine wp_seq ?_
  refine wp_region_lit ?_
  refine s_val rfl rfl (v_move rfl rfl) ?_
  refine s_val rfl rfl (v_eqB (s := (117 :: 123 :: h :: g :: 125 :: y)) (u := []) rfl rfl rfl) ?_
  refine wpList_nil ?_
  refine c_split rfl (fun hc8 => ?_) (fun hc8 => ?_)
  · skip
    simp at hc8
  · skip
    try simp only [Bool.and_eq_true, Bool.or_eq_true, Bool.and_eq_false_iff, Bool.or_eq_false_iff, Bool.not_eq_true', Bool.not_eq_false', decide_eq_true_eq, decide_eq_false_iff_not, beq_iff_eq, beq_eq_false_iff_ne, bne_iff_ne, bne_eq_false_iff_eq, ne_eq, Classical.not_not] at hc8
    refine wp_skip ?_
    refine wp_seq ?_
    refine wp_seq ?_
    refine wp_region_lit ?_
    refine s_val rfl rfl (v_move rfl rfl) ?_
    refine s_val rfl rfl ((show (execOp _ _).run _ _ = .ok (.value (.int .u8 117)) _ from v_idxB (s := (117 :: 123 :: h :: g :: 125 :: y)) (m := 0) rfl rfl rfl Tryz.underlying9 (by omega) (by simp only [List.length_cons]; omega))) ?_
    refine wpList_nil ?_
    refine wp_block ?_
    refine wp_seq ?_
    refine wp_seq ?_
    refine wp_region_lit ?_
    refine s_val rfl rfl (v_cmp rfl rfl rfl rfl) ?_
    refine s_val rfl rfl (v_assign rfl rfl) ?_
    refine wpList_nil ?_
    refine wp_cond_false (show (St _ _).eval _ = _ by rw [eval_St]; rfl) ?_
    refine wp_region_lit ?_
    refine s_val rfl rfl (v_cmp rfl rfl rfl rfl) ?_
    refine s_val rfl rfl (v_assign rfl rfl) ?_
    refine wpList_nil ?_
    refine wp_cond_false (show (St _ _).eval _ = _ by rw [eval_St]; rfl) ?_
    refine wp_seq ?_
    refine wp_region_lit ?_
    refine s_val rfl rfl (v_cmp rfl rfl rfl rfl) ?_
    refine s_val rfl rfl (v_assign rfl rfl) ?_
    refine wpList_nil ?_
    refine wp_cond_false (show (St _ _).eval _ = _ by rw [eval_St]; rfl) ?_
    refine wp_seq ?_
    refine wp_region_lit ?_
    refine s_val rfl rfl (v_cmp rfl rfl rfl rfl) ?_
    refine s_val rfl rfl (v_assign rfl rfl) ?_
    refine wpList_nil ?_
    refine wp_cond_false (show (St _ _).eval _ = _ by rw [eval_St]; rfl) ?_
    refine wp_seq ?_
    refine wp_region_lit ?_
    refine s_val rfl rfl (v_cmp rfl rfl rfl rfl) ?_
    refine s_val rfl rfl (v_assign rfl rfl) ?_
    refine wpList_nil ?_
    refine wp_cond_false (show (St _ _).eval _ = _ by rw [eval_St]; rfl) ?_
    refine wp_seq ?_
    refine wp_region_lit ?_
    refine s_val rfl rfl (v_cmp rfl rfl rfl rfl) ?_
    refine s_val rfl rfl (v_assign rfl rfl) ?_
    refine wpList_nil ?_
    refine wp_cond_true (show (St _ _).eval _ = _ by rw [eval_St]; rfl) ?_
    refine wp_seq ?_
    refine wp_region_lit ?_
    refine s_val rfl rfl (v_assign rfl rfl) ?_
    refine wpList_nil ?_
    refine wp_block ?_
    refine w_loop (fun k f w1 => ∃ m : Nat, k + m = 4 ∧ 3 ≤ m ∧ f 0 = .string (bs (117 :: 123 :: h :: g :: 125 :: y)) ∧ f 4 = .int .i64 m ∧ Ctx w0 w1 []) (1) ?_ ?_
    · skip
      exact ⟨3, by omega, by omega, rfl, rfl, cx⟩
    intro gk15 f w hJ
    obtain ⟨m, hk, hm, hs0, hs4, cx⟩ := hJ
    refine wp_seq ?_
    refine wp_seq ?_
    refine wp_region_lit ?_
    refine s_val rfl rfl (v_move rfl hs4) ?_
    refine s_val rfl rfl (v_cmp rfl rfl rfl rfl) ?_
    refine s_val rfl rfl (v_move rfl rfl) ?_
    refine s_gval rfl rfl rfl (by first | exact w_tt rfl | exact w_gt rfl) (fun hc => v_move rfl hs4) ?_
    refine s_gval rfl rfl rfl (by first | exact w_tt rfl | exact w_gt rfl) (fun hc => v_move rfl hs0) ?_
    refine s_gval rfl rfl rfl (by first | exact w_tt rfl | exact w_gt rfl) (fun hc => v_lenB rfl (by first | exact gve hc rfl | exact gve (and_l hc) rfl | exact gve (and_l (and_l hc)) rfl | rfl) Tryz.underlying9) ?_
    refine s_gval rfl rfl rfl (by first | exact w_tt rfl | exact w_gt rfl) (fun hc => v_cmp rfl (by first | exact gve hc rfl | exact gve (and_l hc) rfl | exact gve (and_l (and_l hc)) rfl | rfl) (by first | exact gve hc rfl | exact gve (and_l hc) rfl | exact gve (and_l (and_l hc)) rfl | rfl) rfl) ?_
    refine s_val rfl rfl (v_and rfl rfl rfl rfl) ?_
    refine wpList_nil ?_
    refine c_split rfl (fun hc31 => ?_) (fun hc31 => ?_)
    · skip
      try simp only [Bool.and_eq_true, Bool.or_eq_true, Bool.and_eq_false_iff, Bool.or_eq_false_iff, Bool.not_eq_true', Bool.not_eq_false', decide_eq_true_eq, decide_eq_false_iff_not, beq_iff_eq, beq_eq_false_iff_ne, bne_iff_ne, bne_eq_false_iff_eq, ne_eq, Classical.not_not] at hc31
      refine wp_skip ?_
      refine wp_seq ?_
      refine wp_block ?_
      refine wp_seq ?_
      refine wp_region_lit ?_
      refine s_val rfl rfl (v_move rfl hs0) ?_
      refine s_val rfl rfl (v_idxB rfl rfl rfl Tryz.underlying9 (by omega) (by omega)) ?_
      refine s_val rfl rfl (v_cmp rfl rfl rfl rfl) ?_
      refine s_val rfl rfl (v_move rfl rfl) ?_
      refine s_gval rfl rfl rfl (by first | exact w_tt rfl | exact w_gt rfl) (fun hc => v_move rfl hs0) ?_
      refine s_gval rfl rfl rfl (by first | exact w_tt rfl | exact w_gt rfl) (fun hc => v_move rfl hs4) ?_
      refine s_gval rfl rfl rfl (by first | exact w_tt rfl | exact w_gt rfl) (fun hc => v_idxB rfl (by first | exact gve hc rfl | exact gve (and_l hc) rfl | exact gve (and_l (and_l hc)) rfl | rfl) (by first | exact gve hc rfl | exact gve (and_l hc) rfl | exact gve (and_l (and_l hc)) rfl | rfl) Tryz.underlying9 (by first | omega | (simp only [Bool.and_eq_true, Bool.or_eq_true, Bool.and_eq_false_iff, Bool.or_eq_false_iff, Bool.not_eq_true', Bool.not_eq_false', decide_eq_true_eq, decide_eq_false_iff_not, beq_iff_eq, beq_eq_false_iff_ne, bne_iff_ne, bne_eq_false_iff_eq, ne_eq, Classical.not_not] at hc; omega)) (by first | omega | (simp only [Bool.and_eq_true, Bool.or_eq_true, Bool.and_eq_false_iff, Bool.or_eq_false_iff, Bool.not_eq_true', Bool.not_eq_false', decide_eq_true_eq, decide_eq_false_iff_not, beq_iff_eq, beq_eq_false_iff_ne, bne_iff_ne, bne_eq_false_iff_eq, ne_eq, Classical.not_not] at hc; omega))) ?_
      refine s_gval rfl rfl rfl (by first | exact w_tt rfl | exact w_gt rfl) (fun hc => v_cmp rfl (by first | exact gve hc rfl | exact gve (and_l hc) rfl | exact gve (and_l (and_l hc)) rfl | rfl) rfl rfl) ?_
      refine s_val rfl rfl (v_and rfl rfl rfl rfl) ?_
      refine wpList_nil ?_
      refine c_split rfl (fun hc42 => ?_) (fun hc42 => ?_)
      · skip
        try simp only [Bool.and_eq_true, Bool.or_eq_true, Bool.and_eq_false_iff, Bool.or_eq_false_iff, Bool.not_eq_true', Bool.not_eq_false', decide_eq_true_eq, decide_eq_false_iff_not, beq_iff_eq, beq_eq_false_iff_ne, bne_iff_ne, bne_eq_false_iff_eq, ne_eq, Classical.not_not] at hc42
        have hm4 : m = 4 := by
          rcases Nat.lt_or_ge 3 m with h1 | h1
          · omega
          · obtain rfl : m = 3 := by omega
            exact absurd hc42.2 hg
        subst hm4
        refine wp_seq ?_
        refine wp_region_lit ?_
        refine s_val rfl rfl (v_move rfl hs0) ?_
        refine s_val rfl rfl (v_move rfl hs4) ?_
        refine s_val rfl rfl (v_cutMid rfl rfl rfl rfl Tryz.underlying9 (by omega) (by omega) (by omega)) ?_
        refine s_fn cx (c322 n hn _ hh _) Tryz.func322 rfl rfl rfl rfl rfl rfl ?_; intro q47 w cx hw47 hp47
        subst hp47
        refine s_val rfl rfl (v_move rfl rfl) ?_
        refine s_val rfl rfl (v_extract rfl rfl rfl) ?_
        refine s_val rfl rfl (v_extract rfl rfl rfl) ?_
        refine s_val rfl rfl (v_assign rfl rfl) ?_
        refine s_val rfl rfl (v_assign rfl rfl) ?_
        refine wpList_nil ?_
        refine wp_seq ?_
        refine wp_region_lit ?_
        refine s_val rfl rfl (v_move rfl rfl) ?_
        refine s_val rfl rfl (v_nilErr Tryz.underlying184 rfl rfl rfl) ?_
        refine wpList_nil ?_
        refine wp_cond_true (show (St _ _).eval _ = _ by rw [eval_St]; rfl) ?_
        refine wp_seq ?_
        refine wp_region_lit ?_
        refine s_val rfl rfl (v_move rfl rfl) ?_
        refine s_val rfl rfl (v_conv rfl rfl Tryz.underlying299 Tryz.underlying5) ?_
        refine s_val rfl rfl (v_move rfl hs4) ?_
        refine s_val rfl rfl (v_add rfl rfl rfl (by omega) (by omega)) ?_
        refine s_val rfl rfl (v_assign rfl rfl) ?_
        refine s_val rfl rfl (v_assign rfl rfl) ?_
        refine wpList_nil ?_
        refine wp_ret ?_
        refine ret_tmp2 Tryz.results254 rfl rfl ?_
        exact ⟨cx.ext, congrArg (fun z => Value.tuple #[.int .u8 z, .int .i64 5]) (u8_in (by omega))⟩
      · skip
        try simp only [Bool.and_eq_true, Bool.or_eq_true, Bool.and_eq_false_iff, Bool.or_eq_false_iff, Bool.not_eq_true', Bool.not_eq_false', decide_eq_true_eq, decide_eq_false_iff_not, beq_iff_eq, beq_eq_false_iff_ne, bne_iff_ne, bne_eq_false_iff_eq, ne_eq, Classical.not_not] at hc42
        have hm3 : m = 3 := by
          have h1 : m = 3 ∨ m = 4 := by omega
          rcases h1 with rfl | rfl
          · rfl
          · exact absurd hc42 (by simp)
        refine wp_skip ?_
        refine wp_region_lit ?_
        refine s_val rfl rfl (v_move rfl hs4) ?_
        refine s_val rfl rfl (v_add rfl rfl rfl (by omega) (by omega)) ?_
        refine s_val rfl rfl (v_assign rfl rfl) ?_
        refine wpList_nil ?_
        exact ⟨gk15 - 1, _, by omega, rfl, m + 1, by omega, by omega, hs0, rfl, cx⟩
    · skip
      try simp only [Bool.and_eq_true, Bool.or_eq_true, Bool.and_eq_false_iff, Bool.or_eq_false_iff, Bool.not_eq_true', Bool.not_eq_false', decide_eq_true_eq, decide_eq_false_iff_not, beq_iff_eq, beq_eq_false_iff_ne, bne_iff_ne, bne_eq_false_iff_eq, ne_eq, Classical.not_not] at hc31
      exfalso
      simp only [List.length_cons] at hc31
      omega
theorem cesc (c : UInt8) (t l y : List UInt8) (h : sgn c = 92 :: t) (hl : l = t ++ y) (w : World) : Fc Tryz.prog 254 [.string (bs l)] w (fun v _ => v = .tuple #[.int .u8 (c.toNat : Nat), .int .i64 (t.length : Nat)]) := by
  subst hl
  by_cases h1 : c = 34 ∨ c = 92
  · have e : sgn c = [92, c] := by unfold sgn; rw [if_pos h1]
    rw [e] at h
    simp only [List.cons.injEq, true_and] at h
    subst h
    exact c254s c c.toNat y (by rcases h1 with rfl | rfl <;> decide) w
  by_cases h2 : c.toNat = 10
  · rw [sgn_10 h2] at h
    simp only [List.cons.injEq, true_and] at h
    subst h
    rw [h2]
    exact c254s 110 10 y (by decide) w
  by_cases h3 : c.toNat = 9
  · rw [sgn_9 h3] at h
    simp only [List.cons.injEq, true_and] at h
    subst h
    rw [h3]
    exact c254s 116 9 y (by decide) w
  by_cases h4 : c.toNat = 13
  · rw [sgn_13 h4] at h
    simp only [List.cons.injEq, true_and] at h
    subst h
    rw [h4]
    exact c254s 114 13 y (by decide) w
  by_cases h5 : c.toNat < 32 ∨ c.toNat = 127
  · rw [sgn_u h2 h3 h4 h5] at h
    simp only [List.cons_append, List.nil_append, List.cons.injEq, true_and] at h
    subst h
    by_cases h6 : c.toNat < 16
    · have hh : hexs c.toNat = [hexd c.toNat] := by unfold hexs; rw [if_pos h6]
      rw [hh]
      exact c254u1 _ c.toNat y h5 hh w
    · have hh : hexs c.toNat = [hexd (c.toNat / 16), hexd (c.toNat % 16)] := by unfold hexs; rw [if_neg h6]
      rw [hh]
      refine c254u2 _ _ c.toNat y h5 hh ?_ w
      have h7 : c.toNat % 16 < 16 := by omega
      generalize c.toNat % 16 = m at h7
      unfold hexd
      split
      · rw [u8t (by omega)]; omega
      · rw [u8t (by omega)]; omega
  · exfalso
    have h6 : ¬ (c.toNat = 34 ∨ c.toNat = 92) := fun e => h1 (e.imp (fun e => UInt8.toNat_inj.1 e) (fun e => UInt8.toNat_inj.1 e))
    rw [sgn_o h6 h5] at h
    simp only [List.cons.injEq] at h
    exact h1 (.inr h.1)
set_option maxHeartbeats 4000000 in
set_option maxRecDepth 10000 in
theorem c176 (k y s : List UInt8) (hs : s = 34 :: (qtd k ++ 34 :: y)) (hk : k.length ≤ 1073741824) (hy : y.length ≤ 1073741824) (w0 : World) : Fc Tryz.prog 176 [.string (bs s)] w0 (fun v _ => v = .tuple #[.string (bs k), .int .i64 ((qtd k).length + 2 : Nat)]) := by
  refine ret_enter Tryz.func176 rfl Tryz.ntmps176 rfl ?_
  have cx := Ctx.start w0
  refine wp_seq ?_
  refine wp_region_lit ?_
  refine s_val rfl rfl (v_assign rfl rfl) ?_
  refine s_val rfl rfl (v_assign rfl rfl) ?_
  refine wpList_nil ?_
  refine wp_seq ?_
  refine wp_region_lit ?_
  refine s_val rfl rfl (v_assign rfl rfl) ?_
  refine wpList_nil ?_
  refine wp_seq ?_
  refine wp_seq ?_
  refine wp_region_lit ?_
  refine s_val rfl rfl (v_assign rfl rfl) ?_
  refine wpList_nil ?_
  refine wp_block ?_
  refine w_loop (fun g f w1 => ∃ (i p : Nat) (v : Value), g + i = k.length ∧ p = 1 + (qtd (k.take i)).length ∧ f 0 = .string (bs s) ∧ f 5 = .int .i64 p ∧ f 4 = v ∧ Cxr w0 w1 [] [⟨5, 1, v, i, (k.take i).map bv⟩]) (k.length) ?_ ?_
  · skip
    exact ⟨0, 1, _, by omega, rfl, rfl, rfl, rfl, cx.nilRow 5 1⟩
  intro gk3 f w hJ
  obtain ⟨i, p, v, hgi, hp, hs0, hs5, hs4, cx⟩ := hJ
  have hql := qtd_len k
  have hsp := qtd_split k y i
  rw [← hs] at hsp
  have hL := congrArg List.length hsp
  simp only [List.length_append, List.length_cons] at hL
  have hR := rst_pos k y i
  have hsl := congrArg List.length hs
  simp only [List.length_append, List.length_cons] at hsl
  obtain ⟨b, hb⟩ : ∃ b, s.getD (Int.toNat (p : Int)) 0 = b := ⟨_, rfl⟩
  have hb' := hb
  rw [Int.toNat_natCast, hsp, getD_at _ _ _ (by simp only [List.length_cons]; omega)] at hb'
  have hcase := rst_case k y i (by omega)
  rw [hb'] at hcase
  refine wp_seq ?_
  refine wp_seq ?_
  refine wp_region_lit ?_
  refine s_val rfl rfl (v_move rfl hs5) ?_
  refine s_val rfl rfl (v_move rfl hs0) ?_
  refine s_val rfl rfl (v_lenB rfl rfl Tryz.underlying9) ?_
  refine s_val rfl rfl (v_cmp rfl rfl rfl rfl) ?_
  refine wpList_nil ?_
  refine c_split rfl (fun hc11 => ?_) (fun hc11 => ?_)
  · skip
    try simp only [Bool.and_eq_true, Bool.or_eq_true, Bool.and_eq_false_iff, Bool.or_eq_false_iff, Bool.not_eq_true', Bool.not_eq_false', decide_eq_true_eq, decide_eq_false_iff_not, beq_iff_eq, beq_eq_false_iff_ne, bne_iff_ne, bne_eq_false_iff_eq, ne_eq, Classical.not_not] at hc11
    refine wp_skip ?_
    refine wp_seq ?_
    refine wp_block ?_
    refine wp_seq ?_
    refine wp_region_lit ?_
    refine s_val rfl rfl (v_move rfl hs0) ?_
    refine s_val rfl rfl (v_move rfl hs5) ?_
    refine s_val rfl rfl ((show (execOp _ _).run _ _ = .ok (.value (.int .u8 ((b.toNat : Nat) : Int))) _ from by rw [← hb]; exact v_idxB (m := (p : Int)) rfl rfl rfl Tryz.underlying9 (by omega) (by omega))) ?_
    refine wpList_nil ?_
    refine wp_block ?_
    refine wp_seq ?_
    refine wp_region_lit ?_
    refine s_val rfl rfl (v_cmp rfl rfl rfl rfl) ?_
    refine s_val rfl rfl (v_assign rfl rfl) ?_
    refine wpList_nil ?_
    refine c_split rfl (fun hc23 => ?_) (fun hc23 => ?_)
    · skip
      try simp only [Bool.and_eq_true, Bool.or_eq_true, Bool.and_eq_false_iff, Bool.or_eq_false_iff, Bool.not_eq_true', Bool.not_eq_false', decide_eq_true_eq, decide_eq_false_iff_not, beq_iff_eq, beq_eq_false_iff_ne, bne_iff_ne, bne_eq_false_iff_eq, ne_eq, Classical.not_not] at hc23
      have hi : i = k.length := by
        rcases hcase with ⟨hi, hb4⟩ | ⟨c, hki, hsg, hbc, hb3, hb9⟩ | ⟨c, t, hki, hsg, htl, hb9⟩
        · exact hi
        · exfalso
          rw [hbc] at hc23
          omega
        · exfalso
          omega
      refine wp_seq ?_
      refine wp_region_lit ?_
      refine s_val rfl rfl (v_move rfl hs4) ?_
      refine s_val rfl rfl (v_rowStr cx rfl Tryz.underlying79 Tryz.underlying5 Tryz.underlying9 rfl) ?_
      refine s_val rfl rfl (v_move rfl hs5) ?_
      refine s_val rfl rfl (v_add rfl rfl rfl (by omega) (by omega)) ?_
      refine s_val rfl rfl (v_assign rfl rfl) ?_
      refine s_val rfl rfl (v_assign rfl rfl) ?_
      refine wpList_nil ?_
      refine wp_ret ?_
      refine ret_tmp2 Tryz.results176 rfl rfl ?_
      refine ⟨cx.ext, ?_⟩
      have e : k.take i = k := by rw [hi]; exact List.take_length
      rw [e] at hp
      have e2 : ((p : Int) + 1) = (((qtd k).length + 2 : Nat) : Int) := by omega
      show Value.tuple #[.string (bs (k.take i)), .int .i64 ((p : Int) + 1)] = _
      rw [e, e2]
    · skip
      try simp only [Bool.and_eq_true, Bool.or_eq_true, Bool.and_eq_false_iff, Bool.or_eq_false_iff, Bool.not_eq_true', Bool.not_eq_false', decide_eq_true_eq, decide_eq_false_iff_not, beq_iff_eq, beq_eq_false_iff_ne, bne_iff_ne, bne_eq_false_iff_eq, ne_eq, Classical.not_not] at hc23
      refine wp_seq ?_
      refine wp_region_lit ?_
      refine s_val rfl rfl (v_cmp rfl rfl rfl rfl) ?_
      refine s_val rfl rfl (v_assign rfl rfl) ?_
      refine wpList_nil ?_
      refine c_split rfl (fun hc29 => ?_) (fun hc29 => ?_)
      · skip
        try simp only [Bool.and_eq_true, Bool.or_eq_true, Bool.and_eq_false_iff, Bool.or_eq_false_iff, Bool.not_eq_true', Bool.not_eq_false', decide_eq_true_eq, decide_eq_false_iff_not, beq_iff_eq, beq_eq_false_iff_ne, bne_iff_ne, bne_eq_false_iff_eq, ne_eq, Classical.not_not] at hc29
        obtain ⟨c, t, hki, hsg, htl⟩ : ∃ c t, k[i]? = some c ∧ sgn c = 92 :: t ∧ 0 < t.length := by
          rcases hcase with ⟨hi, hb4⟩ | ⟨c, hki, hsg, hbc, hb3, hb9⟩ | ⟨c, t, hki, hsg, htl, hb9⟩
          · exfalso
            omega
          · exfalso
            rw [hbc] at hc29
            omega
          · exact ⟨c, t, hki, hsg, htl⟩
        have hts := sgn_len c
        rw [hsg] at hts
        simp only [List.length_cons] at hts
        refine wp_seq ?_
        refine wp_region_lit ?_
        refine s_val rfl rfl (v_move rfl hs0) ?_
        refine s_val rfl rfl (v_move rfl hs5) ?_
        refine s_val rfl rfl (v_add rfl rfl rfl (by omega) (by omega)) ?_
        refine s_val rfl rfl (v_cutFrom rfl rfl rfl Tryz.underlying9 (by omega) (by omega)) ?_
        refine s_fn cx (cesc c t _ (rstQ k y (i + 1)) hsg (by rw [hsp, drop_at _ _ _ 1 (by simp only [List.length_cons]; omega), rstQ_step k y i c hki, hsg]; rfl) _) Tryz.func254 rfl rfl rfl rfl rfl rfl ?_; intro q36 w cx hw36 hp36
        subst hp36
        refine s_val rfl rfl (v_move rfl rfl) ?_
        refine s_val rfl rfl (v_extract rfl rfl rfl) ?_
        refine s_val rfl rfl (v_extract rfl rfl rfl) ?_
        refine s_val rfl rfl (v_assign rfl rfl) ?_
        refine s_val rfl rfl (v_assign rfl rfl) ?_
        refine wpList_nil ?_
        refine wp_seq ?_
        refine wp_seq ?_
        refine wp_region_lit ?_
        refine s_val rfl rfl (v_move rfl rfl) ?_
        refine s_val rfl rfl (v_cmp rfl rfl rfl rfl) ?_
        refine wpList_nil ?_
        refine c_split rfl (fun hc40 => ?_) (fun hc40 => ?_)
        · skip
          try simp only [Bool.and_eq_true, Bool.or_eq_true, Bool.and_eq_false_iff, Bool.or_eq_false_iff, Bool.not_eq_true', Bool.not_eq_false', decide_eq_true_eq, decide_eq_false_iff_not, beq_iff_eq, beq_eq_false_iff_ne, bne_iff_ne, bne_eq_false_iff_eq, ne_eq, Classical.not_not] at hc40
          exfalso
          omega
        · skip
          try simp only [Bool.and_eq_true, Bool.or_eq_true, Bool.and_eq_false_iff, Bool.or_eq_false_iff, Bool.not_eq_true', Bool.not_eq_false', decide_eq_true_eq, decide_eq_false_iff_not, beq_iff_eq, beq_eq_false_iff_ne, bne_iff_ne, bne_eq_false_iff_eq, ne_eq, Classical.not_not] at hc40
          refine wp_skip ?_
          refine wp_seq ?_
          refine wp_region_lit ?_
          refine s_val rfl rfl (v_move rfl hs4) ?_
          refine s_val rfl rfl (v_move rfl rfl) ?_
          refine s_bsl1 cx Tryz.underlying79 sz5 z5 rfl rfl rfl rfl rfl rfl rfl rfl ?_; intro b43 w cx hb43 hw43
          refine s_append cx ei5 Tryz.underlying79 rfl rfl rfl rfl rfl (cx.row 0 rfl) rfl rfl (by omega) ?_; intro v44 w cx hgr44
          replace cx := cx.drop 1
          refine s_val rfl rfl (v_assign rfl rfl) ?_
          refine wpList_nil ?_
          refine wp_region_lit ?_
          refine s_val rfl rfl (v_move rfl hs5) ?_
          refine s_val rfl rfl (v_move rfl rfl) ?_
          refine s_val rfl rfl (v_add rfl rfl rfl (by omega) (by omega)) ?_
          refine s_val rfl rfl (v_assign rfl rfl) ?_
          refine wpList_nil ?_
          refine wp_region_lit ?_
          refine s_val rfl rfl (v_move rfl rfl) ?_
          refine s_val rfl rfl (v_add rfl rfl rfl (by omega) (by omega)) ?_
          refine s_val rfl rfl (v_assign rfl rfl) ?_
          refine wpList_nil ?_
          have hik := (List.getElem?_eq_some_iff.1 hki).1
          have hq2 := congrArg List.length (qtdt_succ k i c hki)
          simp only [List.length_append, hsg, List.length_cons, List.length_nil] at hq2
          refine ⟨gk3 - 1, _, by omega, rfl, i + 1, p + t.length + 1, _, by omega, by omega, hs0, rfl, rfl, cx.row_eq (by omega) ?_⟩
          exact take_bv hki
      · skip
        try simp only [Bool.and_eq_true, Bool.or_eq_true, Bool.and_eq_false_iff, Bool.or_eq_false_iff, Bool.not_eq_true', Bool.not_eq_false', decide_eq_true_eq, decide_eq_false_iff_not, beq_iff_eq, beq_eq_false_iff_ne, bne_iff_ne, bne_eq_false_iff_eq, ne_eq, Classical.not_not] at hc29
        obtain ⟨c, hki, hsg, hbc⟩ : ∃ c, k[i]? = some c ∧ sgn c = [c] ∧ b = c := by
          rcases hcase with ⟨hi, hb4⟩ | ⟨c, hki, hsg, hbc, hb3, hb9⟩ | ⟨c, t, hki, hsg, htl, hb9⟩
          · exfalso
            omega
          · exact ⟨c, hki, hsg, hbc⟩
          · exfalso
            omega
        refine wp_region_lit ?_
        refine s_val rfl rfl (v_move rfl hs4) ?_
        refine s_val rfl rfl (v_move rfl hs0) ?_
        refine s_val rfl rfl (v_move rfl hs5) ?_
        refine s_val rfl rfl ((show (execOp _ _).run _ _ = .ok (.value (.int .u8 ((b.toNat : Nat) : Int))) _ from by rw [← hb]; exact v_idxB (m := (p : Int)) rfl rfl rfl Tryz.underlying9 (by omega) (by omega))) ?_
        refine s_bsl1 cx Tryz.underlying79 sz5 z5 rfl rfl rfl rfl rfl rfl rfl rfl ?_; intro b21 w cx hb21 hw21
        refine s_append cx ei5 Tryz.underlying79 rfl rfl rfl rfl rfl (cx.row 0 rfl) rfl rfl (by omega) ?_; intro v22 w cx hgr22
        replace cx := cx.drop 1
        refine s_val rfl rfl (v_assign rfl rfl) ?_
        refine wpList_nil ?_
        refine wp_region_lit ?_
        refine s_val rfl rfl (v_move rfl hs5) ?_
        refine s_val rfl rfl (v_add rfl rfl rfl (by omega) (by omega)) ?_
        refine s_val rfl rfl (v_assign rfl rfl) ?_
        refine wpList_nil ?_
        have hik := (List.getElem?_eq_some_iff.1 hki).1
        have hq2 := congrArg List.length (qtdt_succ k i c hki)
        simp only [List.length_append, hsg, List.length_cons, List.length_nil] at hq2
        refine ⟨gk3 - 1, _, by omega, rfl, i + 1, p + 1, _, by omega, by omega, hs0, rfl, rfl, cx.row_eq (by omega) ?_⟩
        subst hbc
        exact take_bv hki
  · skip
    try simp only [Bool.and_eq_true, Bool.or_eq_true, Bool.and_eq_false_iff, Bool.or_eq_false_iff, Bool.not_eq_true', Bool.not_eq_false', decide_eq_true_eq, decide_eq_false_iff_not, beq_iff_eq, beq_eq_false_iff_ne, bne_iff_ne, bne_eq_false_iff_eq, ne_eq, Classical.not_not] at hc11
    exfalso
    omega
end Go.Proofs.YthiafbkolhnadaaGreatDoor
end
section
set_option linter.unusedSimpArgs false
set_option linter.unusedVariables false
namespace Go.Proofs.YthiafbkolhnadaaGreatDoor
open Go Go.Dk Go.RowKit Go.Lib
attribute [local irreducible] Go.wpList Go.Code.wp Go.bodyPost Go.wpStill Go.wpQuiet
set_option maxHeartbeats 4000000 in
set_option maxRecDepth 10000 in
theorem c41 (u : Value) (l : List Stp) (w0 : World) (hv : Pth w0 u l) (hg : ∀ s ∈ l, GdS s) (hl : l.length ≤ 48) (ht : Tabs w0) : Fc Tryz.prog 41 [u] w0 (fun v _ => v = .string (bs (pathT l))) := by
  obtain ⟨a, c, b, o, rfl, ha, hr⟩ := hv.form
  refine ret_enter Tryz.func41 rfl Tryz.ntmps41 rfl ?_
  have cx := Ctx.start w0
  refine wp_seq ?_
  refine wp_region_lit ?_
  refine s_val rfl rfl (v_assign rfl rfl) ?_
  refine wpList_nil ?_
  refine wp_seq ?_
  refine wp_seq ?_
  refine wp_region_lit ?_
  refine s_val rfl rfl (v_move rfl rfl) ?_
  refine s_val rfl rfl (v_lenSlice rfl rfl Tryz.underlying28) ?_
  refine s_val rfl rfl (v_cmp rfl rfl rfl rfl) ?_
  refine wpList_nil ?_
  refine c_split rfl (fun hc8 => ?_) (fun hc8 => ?_)
  · skip
    try simp only [Bool.and_eq_true, Bool.or_eq_true, Bool.and_eq_false_iff, Bool.or_eq_false_iff, Bool.not_eq_true', Bool.not_eq_false', decide_eq_true_eq, decide_eq_false_iff_not, beq_iff_eq, beq_eq_false_iff_ne, bne_iff_ne, bne_eq_false_iff_eq, ne_eq, Classical.not_not] at hc8
    refine wp_seq ?_
    refine wp_region_lit ?_
    refine s_val rfl rfl (v_assign rfl rfl) ?_
    refine wpList_nil ?_
    refine wp_ret ?_
    refine ret_tmp Tryz.results41 rfl ?_
    have e : l = [] := List.eq_nil_of_length_eq_zero (by omega)
    subst e
    exact ⟨cx.ext, rfl⟩
  · skip
    try simp only [Bool.and_eq_true, Bool.or_eq_true, Bool.and_eq_false_iff, Bool.or_eq_false_iff, Bool.not_eq_true', Bool.not_eq_false', decide_eq_true_eq, decide_eq_false_iff_not, beq_iff_eq, beq_eq_false_iff_ne, bne_iff_ne, bne_eq_false_iff_eq, ne_eq, Classical.not_not] at hc8
    refine wp_skip ?_
    refine wp_seq ?_
    refine wp_region_lit ?_
    have hne : l ≠ [] := by rintro rfl; simp at hc8
    have hpos : 0 < l.length := List.length_pos_iff.2 hne
    obtain ⟨x0, hx0⟩ : ∃ x, l[0]? = some x := ⟨l[0]'hpos, List.getElem?_eq_getElem _⟩
    have hr0 := hr 0 x0 hx0
    obtain rfl := ha hpos
    replace cx := cx.nilRow 5 1
    refine s_val rfl rfl (v_assign rfl rfl) ?_
    refine wpList_nil ?_
    refine w_cut (fun f w1 => ∃ v, f 0 = .slice (some ⟨b, o, none⟩) l.length c ∧ f 3 = v ∧ Cxr w0 w1 [] [⟨5, 1, v, (ldp l).length, (ldp l).map bv⟩]) ?_ ?_
    · skip
      refine wp_seq ?_
      refine wp_region_lit ?_
      refine s_val rfl rfl (v_move rfl rfl) ?_
      refine s_val rfl rfl (v_ia Tryz.underlying28 sz107 rfl rfl rfl (by omega) (by omega)) ?_
      refine s_val rfl rfl (v_fa fa107_0 rfl rfl) ?_
      refine s_val rfl rfl (v_load1 rfl rfl Tryz.underlying4 rfl ((hr0.up cx.ext).cell 0 rfl)) ?_
      refine wpList_nil ?_
      refine c_split rfl (fun hc12 => ?_) (fun hc12 => ?_)
      · skip
        try simp only [Bool.and_eq_true, Bool.or_eq_true, Bool.and_eq_false_iff, Bool.or_eq_false_iff, Bool.not_eq_true', Bool.not_eq_false', decide_eq_true_eq, decide_eq_false_iff_not, beq_iff_eq, beq_eq_false_iff_ne, bne_iff_ne, bne_eq_false_iff_eq, ne_eq, Classical.not_not] at hc12
        refine wp_region_lit ?_
        refine s_val rfl rfl (v_move rfl rfl) ?_
        refine s_bsl1 cx Tryz.underlying79 sz5 z5 rfl rfl rfl rfl rfl rfl rfl rfl ?_; intro b14 w cx hb14 hw14
        refine s_append cx ei5 Tryz.underlying79 rfl rfl rfl rfl rfl (cx.row 0 rfl) rfl rfl (by omega) ?_; intro v15 w cx hgr15
        replace cx := cx.drop 1
        refine s_val rfl rfl (v_assign rfl rfl) ?_
        refine wpList_nil ?_
        first | exact ⟨_, rfl, _, rfl, rfl, cx.row_eq (by rw [ldp_T hx0 hc12]; rfl) (by rw [ldp_T hx0 hc12]; rfl)⟩ | exact ⟨_, rfl, _, rfl, rfl, cx.row_eq (by rw [ldp_F hx0 hc12]; rfl) (by rw [ldp_F hx0 hc12]; rfl)⟩
      · skip
        try simp only [Bool.and_eq_true, Bool.or_eq_true, Bool.and_eq_false_iff, Bool.or_eq_false_iff, Bool.not_eq_true', Bool.not_eq_false', decide_eq_true_eq, decide_eq_false_iff_not, beq_iff_eq, beq_eq_false_iff_ne, bne_iff_ne, bne_eq_false_iff_eq, ne_eq, Classical.not_not] at hc12
        refine wp_skip ?_
        first | exact ⟨_, rfl, _, rfl, rfl, cx.row_eq (by rw [ldp_T hx0 hc12]; rfl) (by rw [ldp_T hx0 hc12]; rfl)⟩ | exact ⟨_, rfl, _, rfl, rfl, cx.row_eq (by rw [ldp_F hx0 hc12]; rfl) (by rw [ldp_F hx0 hc12]; rfl)⟩
    intro f w hJ
    obtain ⟨v, hs0, hs3, cx⟩ := hJ
    refine wp_seq ?_
    refine wp_seq ?_
    refine wp_region_lit ?_
    refine s_val rfl rfl (v_move rfl hs0) ?_
    refine s_val rfl rfl (v_lenSlice rfl rfl Tryz.underlying28) ?_
    refine s_val rfl rfl (v_move rfl rfl) ?_
    refine wpList_nil ?_
    refine wp_block ?_
    refine w_loop (fun k f w1 => ∃ (i : Nat) (v : Value), k + i = l.length ∧ f 16 = .slice (some ⟨b, o, none⟩) l.length c ∧ f 17 = .int .i64 l.length ∧ f 18 = .int .i64 i ∧ f 3 = v ∧ Cxr w0 w1 [] [⟨5, 1, v, (ldp l ++ (l.take i).flatMap stpT).length, (ldp l ++ (l.take i).flatMap stpT).map bv⟩]) (l.length) ?_ ?_
    · skip
      exact ⟨0, _, by omega, rfl, rfl, rfl, hs3, cx.row_eq (by simp) (by simp)⟩
    intro gk7 f w hJ
    obtain ⟨i, v, hk, hs16, hs17, hs18, hs3, cx⟩ := hJ
    refine wp_seq ?_
    refine wp_region_lit ?_
    refine s_val rfl rfl (v_cmp rfl hs18 hs17 rfl) ?_
    refine wpList_nil ?_
    refine wp_seq ?_
    refine c_split rfl (fun hc19 => ?_) (fun hc19 => ?_)
    · skip
      try simp only [Bool.and_eq_true, Bool.or_eq_true, Bool.and_eq_false_iff, Bool.or_eq_false_iff, Bool.not_eq_true', Bool.not_eq_false', decide_eq_true_eq, decide_eq_false_iff_not, beq_iff_eq, beq_eq_false_iff_ne, bne_iff_ne, bne_eq_false_iff_eq, ne_eq, Classical.not_not] at hc19
      obtain ⟨x, hx⟩ : ∃ x, l[i]? = some x := ⟨l[i]'(by omega), List.getElem?_eq_getElem _⟩
      have hrw := hr i x hx
      have hgx := hg x (List.mem_of_getElem? hx)
      have hll := ldp_le l
      have hfl := flat_len (l := l.take i) (fun y hy => hg y (List.mem_of_mem_take hy))
      rw [List.length_take] at hfl
      have hsl := stepT_len hgx
      have hqx := qtd_len x.key.data.toList
      have hkx : x.key.data.toList.length = x.key.size := by simp
      refine wp_skip ?_
      refine wp_seq ?_
      refine wp_block ?_
      refine wp_seq ?_
      refine wp_region_lit ?_
      refine s_val rfl rfl (v_ia Tryz.underlying28 sz107 rfl hs16 hs18 (by omega) (by omega)) ?_
      refine s_val rfl rfl (v_load rfl rfl Tryz.underlying107 rfl sz107 (hrw.up cx.ext) rfl) ?_
      refine s_alloc cx z107 rfl rfl rfl ?_; intro b5 w cx hb5 hw5
      refine s_storeAll cx 0 rfl rfl rfl rfl rfl rfl sz107 rfl rfl ?_; intro w cx hwS
      refine wpList_nil ?_
      refine wp_block ?_
      refine wp_seq ?_
      refine wp_region_lit ?_
      refine s_val rfl rfl (v_fa fa107_0 rfl rfl) ?_
      refine s_val rfl rfl (v_load1 rfl rfl Tryz.underlying4 rfl (cx.cell 0 rfl rfl)) ?_
      refine s_val rfl rfl (v_assign rfl rfl) ?_
      refine wpList_nil ?_
      refine c_split rfl (fun hc28 => ?_) (fun hc28 => ?_)
      · skip
        try simp only [Bool.and_eq_true, Bool.or_eq_true, Bool.and_eq_false_iff, Bool.or_eq_false_iff, Bool.not_eq_true', Bool.not_eq_false', decide_eq_true_eq, decide_eq_false_iff_not, beq_iff_eq, beq_eq_false_iff_ne, bne_iff_ne, bne_eq_false_iff_eq, ne_eq, Classical.not_not] at hc28
        have hix := hgx.1 hc28
        have hil := itoa_le hix.1 (by omega)
        refine wp_region_lit ?_
        refine s_val rfl rfl (v_move rfl hs3) ?_
        refine s_val rfl rfl (v_fa fa107_2 rfl rfl) ?_
        refine s_val rfl rfl (v_load1 rfl rfl Tryz.underlying3 rfl (cx.cell 0 rfl rfl)) ?_
        refine s_fn cx (c47 _ _ (ht.up cx.ext) (by omega) (by omega)) Tryz.func47 rfl rfl rfl rfl rfl rfl ?_; intro q34 w cx hw34 hp34
        subst hp34
        refine s_val rfl rfl (v_strAddB rfl rfl rfl (by simp only [List.length_append, List.length_cons, List.length_nil]; omega)) ?_
        refine s_val rfl rfl (v_strAddB rfl rfl rfl (by simp only [List.length_append, List.length_cons, List.length_nil]; omega)) ?_
        refine s_appendB cx ei8 Tryz.underlying79 Tryz.underlying9 rfl rfl rfl rfl rfl (by simp only [List.length_append, List.length_cons, List.length_nil] at hfl hll ⊢; omega) ?_; intro v37 w cx hgr37
        refine s_val rfl rfl (v_assign rfl rfl) ?_
        refine wpList_nil ?_
        refine wp_region_lit ?_
        refine s_val rfl rfl (v_add rfl hs18 rfl (by omega) (by omega)) ?_
        refine s_val rfl rfl (v_move rfl rfl) ?_
        refine wpList_nil ?_
        have hsg := step_ix hc28
        have hq : ldp l ++ (l.take (i + 1)).flatMap stpT = (ldp l ++ (l.take i).flatMap stpT) ++ stpT x := by rw [flat_take l i x hx, List.append_assoc]
        rw [hsg] at hq
        refine ⟨gk7 - 1, _, by omega, rfl, i + 1, _, by omega, hs16, hs17, rfl, rfl, row_more (cx.drop 1) hq ?_ ?_⟩
        · simp only [List.length_append, List.length_cons, List.length_nil] <;> omega
        · exact congrArg (fun z => (ldp l ++ (l.take i).flatMap stpT).map bv ++ z) rfl
      · skip
        try simp only [Bool.and_eq_true, Bool.or_eq_true, Bool.and_eq_false_iff, Bool.or_eq_false_iff, Bool.not_eq_true', Bool.not_eq_false', decide_eq_true_eq, decide_eq_false_iff_not, beq_iff_eq, beq_eq_false_iff_ne, bne_iff_ne, bne_eq_false_iff_eq, ne_eq, Classical.not_not] at hc28
        have hkl := hgx.2 hc28
        refine wp_seq ?_
        refine w_quiet cx mixed (by kernel_rfl) ?_
        refine q_val rfl rfl (fun w cx hwQ => v_fa fa107_1 rfl rfl) ?_
        refine q_val rfl rfl (fun w cx hwQ => v_load1 rfl rfl Tryz.underlying9 rfl (cx.cell 0 rfl rfl)) ?_
        refine q_val rfl rfl (fun w cx hwQ => v_strNe rfl rfl rfl) ?_
        refine q_val rfl rfl (fun w cx hwQ => v_move rfl rfl) ?_
        refine q_gval rfl rfl rfl (by exact w_tt rfl) (fun hc w cx hwQ => v_fa fa107_1 rfl rfl) ?_
        refine q_gval rfl rfl rfl (by exact w_tt rfl) (fun hc w cx hwQ => v_load1 rfl (gve hc rfl) Tryz.underlying9 rfl (cx.cell 0 rfl rfl)) ?_
        refine q_gcall rfl rfl rfl (by exact w_tt rfl) (fun hc => runs_fn Tryz.func93 rfl rfl rfl (cons_eq (gve hc rfl) rfl)) (fun hc w cx hwQ => c93 x.key w (by omega)) ?_
        refine q_gval rfl rfl rfl (by exact w_tt rfl) (fun hc w cx hwQ => v_fa fa107_1 rfl rfl) ?_
        refine q_gval rfl rfl rfl (by exact w_tt rfl) (fun hc w cx hwQ => v_load1 rfl (gve hc rfl) Tryz.underlying9 rfl (cx.cell 0 rfl rfl)) ?_
        refine q_gval rfl rfl rfl (by exact w_tt rfl) (fun hc w cx hwQ => v_lenString rfl (gve hc rfl) Tryz.underlying9) ?_
        refine q_gval rfl rfl rfl (by exact w_tt rfl) (fun hc w cx hwQ => v_cmp rfl (gve hc rfl) (gve hc rfl) rfl) ?_
        refine q_val rfl rfl (fun w cx hwQ => v_and rfl rfl rfl rfl) ?_
        refine q_val rfl rfl (fun w cx hwQ => v_assign rfl rfl) ?_
        refine q_nil ?_; rintro w ⟨cx, hwQ12⟩
        refine c_split rfl (fun hc38 => ?_) (fun hc38 => ?_)
        · skip
          try simp only [Bool.and_eq_true, Bool.or_eq_true, Bool.and_eq_false_iff, Bool.or_eq_false_iff, Bool.not_eq_true', Bool.not_eq_false', decide_eq_true_eq, decide_eq_false_iff_not, beq_iff_eq, beq_eq_false_iff_ne, bne_iff_ne, bne_eq_false_iff_eq, ne_eq, Classical.not_not] at hc38
          have hnm := (nm_iff x.key).1 hc38
          refine wp_region_lit ?_
          refine s_val rfl rfl (v_move rfl hs3) ?_
          refine s_val rfl rfl (v_fa fa107_1 rfl rfl) ?_
          refine s_val rfl rfl (v_load1 rfl rfl Tryz.underlying9 rfl (cx.cell 0 rfl rfl)) ?_
          refine s_val rfl rfl (v_strAddB (a := [46]) (b := x.key.data.toList) rfl rfl rfl (by simp only [List.length_cons, List.length_nil]; omega)) ?_
          refine s_appendB cx ei8 Tryz.underlying79 Tryz.underlying9 rfl rfl rfl rfl rfl (by simp only [List.length_append, List.length_cons, List.length_nil] at hfl hll ⊢; omega) ?_; intro v55 w cx hgr55
          refine s_val rfl rfl (v_assign rfl rfl) ?_
          refine wpList_nil ?_
          refine wp_region_lit ?_
          refine s_val rfl rfl (v_add rfl hs18 rfl (by omega) (by omega)) ?_
          refine s_val rfl rfl (v_move rfl rfl) ?_
          refine wpList_nil ?_
          have hsg := step_nm hc28 hnm
          have hq : ldp l ++ (l.take (i + 1)).flatMap stpT = (ldp l ++ (l.take i).flatMap stpT) ++ stpT x := by rw [flat_take l i x hx, List.append_assoc]
          rw [hsg] at hq
          refine ⟨gk7 - 1, _, by omega, rfl, i + 1, _, by omega, hs16, hs17, rfl, rfl, row_more (cx.drop 1) hq ?_ ?_⟩
          · simp only [List.length_append, List.length_cons, List.length_nil] <;> omega
          · exact congrArg (fun z => (ldp l ++ (l.take i).flatMap stpT).map bv ++ z) rfl
        · skip
          try simp only [Bool.and_eq_true, Bool.or_eq_true, Bool.and_eq_false_iff, Bool.or_eq_false_iff, Bool.not_eq_true', Bool.not_eq_false', decide_eq_true_eq, decide_eq_false_iff_not, beq_iff_eq, beq_eq_false_iff_ne, bne_iff_ne, bne_eq_false_iff_eq, ne_eq, Classical.not_not] at hc38
          have hnm : ¬ isNm x.key := fun h => by have := (nm_iff x.key).2 h; rcases hc38 with h | h; exact this.1 h; exact h this.2
          refine wp_region_lit ?_
          refine s_val rfl rfl (v_move rfl hs3) ?_
          refine s_val rfl rfl (v_fa fa107_1 rfl rfl) ?_
          refine s_val rfl rfl (v_load1 rfl rfl Tryz.underlying9 rfl (cx.cell 0 rfl rfl)) ?_
          refine s_fn cx (c94 _ _ (by omega) (ht.up cx.ext)) Tryz.func94 rfl rfl rfl rfl rfl rfl ?_; intro q25 w cx hw25 hp25
          subst hp25
          refine s_val rfl rfl (v_strAddB rfl rfl rfl (by simp only [List.length_append, List.length_cons, List.length_nil]; omega)) ?_
          refine s_appendB cx ei8 Tryz.underlying79 Tryz.underlying9 rfl rfl rfl rfl rfl (by simp only [List.length_append, List.length_cons, List.length_nil] at hfl hll ⊢; omega) ?_; intro v27 w cx hgr27
          refine s_val rfl rfl (v_assign rfl rfl) ?_
          refine wpList_nil ?_
          refine wp_region_lit ?_
          refine s_val rfl rfl (v_add rfl hs18 rfl (by omega) (by omega)) ?_
          refine s_val rfl rfl (v_move rfl rfl) ?_
          refine wpList_nil ?_
          have hsg := step_qt hc28 hnm
          have hq : ldp l ++ (l.take (i + 1)).flatMap stpT = (ldp l ++ (l.take i).flatMap stpT) ++ stpT x := by rw [flat_take l i x hx, List.append_assoc]
          rw [hsg] at hq
          refine ⟨gk7 - 1, _, by omega, rfl, i + 1, _, by omega, hs16, hs17, rfl, rfl, row_more (cx.drop 1) hq ?_ ?_⟩
          · simp only [List.length_append, List.length_cons, List.length_nil] <;> omega
          · exact congrArg (fun z => (ldp l ++ (l.take i).flatMap stpT).map bv ++ z) rfl
    · skip
      try simp only [Bool.and_eq_true, Bool.or_eq_true, Bool.and_eq_false_iff, Bool.or_eq_false_iff, Bool.not_eq_true', Bool.not_eq_false', decide_eq_true_eq, decide_eq_false_iff_not, beq_iff_eq, beq_eq_false_iff_ne, bne_iff_ne, bne_eq_false_iff_eq, ne_eq, Classical.not_not] at hc19
      refine wp_exit ?_
      refine wp_seq ?_
      refine wp_region_lit ?_
      have hi : i = l.length := by omega
      subst hi
      rw [List.take_length] at cx
      have hpl : 0 < (ldp l ++ l.flatMap stpT).length := by rw [← path_ldp hne]; exact path_pos l
      obtain ⟨g57, c57, rfl, hrow57⟩ := cx.bytes (l := ldp l ++ l.flatMap stpT) rfl rfl hpl
      refine s_val rfl rfl (v_move rfl hs3) ?_
      refine s_val rfl rfl (v_b2s rfl Tryz.underlying79 Tryz.underlying5 Tryz.underlying9 (ns := (ldp l ++ l.flatMap stpT).map fun x : UInt8 => (x.toNat : Int)) (by rw [List.map_map]; exact hrow57) (by rw [List.length_map]) rfl) ?_
      refine s_val rfl rfl (v_assign rfl rfl) ?_
      refine wpList_nil ?_
      refine wp_ret ?_
      refine ret_tmp Tryz.results41 rfl ?_
      exact ⟨cx.ext, congrArg Value.string ((strOf_bs _).trans (congrArg bs (path_ldp hne).symm))⟩
end Go.Proofs.YthiafbkolhnadaaGreatDoor
end
section
set_option linter.unusedSimpArgs false
set_option linter.unusedVariables false
namespace Go.Proofs.YthiafbkolhnadaaGreatDoor
open Go Go.Dk Go.RowKit Go.Lib
attribute [local irreducible] Go.wpList Go.Code.wp Go.bodyPost Go.wpStill
set_option maxRecDepth 10000 in
theorem c15 (v : Value) (l : List Stp) (w0 : World) (hv : Pth w0 v l) (hl : l.length ≤ 140737488355328) : Fc Tryz.prog 15 [v] w0 (IsB fun b => b = true ↔ GdP l) := by
  obtain ⟨a, c, b, o, rfl, ha, hr⟩ := hv.form
  refine ret_enter Tryz.func15 rfl Tryz.ntmps15 rfl ?_
  have cx := Ctx.start w0
  refine wp_seq ?_
  refine wp_region_lit ?_
  refine s_val rfl rfl (v_assign rfl rfl) ?_
  refine wpList_nil ?_
  refine wp_seq ?_
  refine wp_seq ?_
  refine wp_region_lit ?_
  refine s_val rfl rfl (v_move rfl rfl) ?_
  refine s_val rfl rfl (v_lenSlice rfl rfl Tryz.underlying28) ?_
  refine s_val rfl rfl (v_cmp rfl rfl rfl rfl) ?_
  refine wpList_nil ?_
  refine c_split rfl (fun hc6 => ?_) (fun hc6 => ?_)
  · skip
    try simp only [Bool.and_eq_true, Bool.or_eq_true, Bool.and_eq_false_iff, Bool.or_eq_false_iff, Bool.not_eq_true', Bool.not_eq_false', decide_eq_true_eq, decide_eq_false_iff_not, beq_iff_eq, beq_eq_false_iff_ne, bne_iff_ne, bne_eq_false_iff_eq, ne_eq, Classical.not_not] at hc6
    refine wp_seq ?_
    refine wp_region_lit ?_
    refine s_val rfl rfl (v_assign rfl rfl) ?_
    refine wpList_nil ?_
    refine wp_ret ?_
    refine ret_tmp Tryz.results15 rfl ?_
    refine ⟨cx.ext, _, rfl, (fun h => by cases h), fun h => ?_⟩
    have := h.1
    omega
  · skip
    try simp only [Bool.and_eq_true, Bool.or_eq_true, Bool.and_eq_false_iff, Bool.or_eq_false_iff, Bool.not_eq_true', Bool.not_eq_false', decide_eq_true_eq, decide_eq_false_iff_not, beq_iff_eq, beq_eq_false_iff_ne, bne_iff_ne, bne_eq_false_iff_eq, ne_eq, Classical.not_not] at hc6
    refine wp_skip ?_
    refine wp_seq ?_
    refine wp_seq ?_
    refine wp_region_lit ?_
    refine s_val rfl rfl (v_assign rfl rfl) ?_
    refine wpList_nil ?_
    refine wp_block ?_
    refine w_loop (fun k f w1 => ∃ i : Nat, k + i = l.length ∧ f 0 = .slice a l.length c ∧ f 3 = .int .i64 i ∧ (∀ x ∈ l.take i, Stv x) ∧ Ctx w0 w1 []) (l.length) ?_ ?_
    · skip
      exact ⟨0, by omega, rfl, rfl, by simp, cx⟩
    intro gk4 f w hJ
    obtain ⟨i, hk, hs0, hs3, hall, cx⟩ := hJ
    refine wp_seq ?_
    refine wp_seq ?_
    refine wp_region_lit ?_
    refine s_val rfl rfl (v_move rfl hs3) ?_
    refine s_val rfl rfl (v_move rfl hs0) ?_
    refine s_val rfl rfl (v_lenSlice rfl rfl Tryz.underlying28) ?_
    refine s_val rfl rfl (v_cmp rfl rfl rfl rfl) ?_
    refine wpList_nil ?_
    refine c_split rfl (fun hc10 => ?_) (fun hc10 => ?_)
    · skip
      try simp only [Bool.and_eq_true, Bool.or_eq_true, Bool.and_eq_false_iff, Bool.or_eq_false_iff, Bool.not_eq_true', Bool.not_eq_false', decide_eq_true_eq, decide_eq_false_iff_not, beq_iff_eq, beq_eq_false_iff_ne, bne_iff_ne, bne_eq_false_iff_eq, ne_eq, Classical.not_not] at hc10
      obtain ⟨x, hx⟩ : ∃ x, l[i]? = some x := ⟨l[i]'(by omega), List.getElem?_eq_getElem _⟩
      have hrw := hr i x hx
      obtain rfl := ha (by omega)
      refine wp_skip ?_
      refine wp_seq ?_
      refine wp_block ?_
      refine wp_seq ?_
      refine wp_seq ?_
      refine wp_region_lit ?_
      refine s_val rfl rfl (v_move rfl hs0) ?_
      refine s_val rfl rfl (v_move rfl hs3) ?_
      refine s_val rfl rfl (v_ia Tryz.underlying28 sz107 rfl rfl rfl (by omega) (by omega)) ?_
      refine s_val rfl rfl (v_fa fa107_0 rfl rfl) ?_
      refine s_val rfl rfl (v_load1 rfl rfl Tryz.underlying4 rfl ((hrw.up cx.ext).cell 0 rfl)) ?_
      refine s_val rfl rfl (v_move rfl rfl) ?_
      refine s_gval rfl rfl rfl (by first | exact w_tt rfl | exact w_gt rfl) (fun hc => v_move rfl hs0) ?_
      refine s_gval rfl rfl rfl (by first | exact w_tt rfl | exact w_gt rfl) (fun hc => v_move rfl hs3) ?_
      refine s_gval rfl rfl rfl (by first | exact w_tt rfl | exact w_gt rfl) (fun hc => v_ia Tryz.underlying28 sz107 rfl (by first | exact gve hc rfl | exact gve (and_l hc) rfl | exact gve (and_l (and_l hc)) rfl | rfl) (by first | exact gve hc rfl | exact gve (and_l hc) rfl | exact gve (and_l (and_l hc)) rfl | rfl) (by first | omega | (simp only [Bool.and_eq_true, Bool.or_eq_true, Bool.and_eq_false_iff, Bool.or_eq_false_iff, Bool.not_eq_true', Bool.not_eq_false', decide_eq_true_eq, decide_eq_false_iff_not, beq_iff_eq, beq_eq_false_iff_ne, bne_iff_ne, bne_eq_false_iff_eq, ne_eq, Classical.not_not] at hc; omega)) (by first | omega | (simp only [Bool.and_eq_true, Bool.or_eq_true, Bool.and_eq_false_iff, Bool.or_eq_false_iff, Bool.not_eq_true', Bool.not_eq_false', decide_eq_true_eq, decide_eq_false_iff_not, beq_iff_eq, beq_eq_false_iff_ne, bne_iff_ne, bne_eq_false_iff_eq, ne_eq, Classical.not_not] at hc; omega))) ?_
      refine s_gval rfl rfl rfl (by first | exact w_tt rfl | exact w_gt rfl) (fun hc => v_fa fa107_1 rfl (by first | exact gve hc rfl | exact gve (and_l hc) rfl | exact gve (and_l (and_l hc)) rfl | rfl)) ?_
      refine s_gval rfl rfl rfl (by first | exact w_tt rfl | exact w_gt rfl) (fun hc => v_load1 rfl (by first | exact gve hc rfl | exact gve (and_l hc) rfl | exact gve (and_l (and_l hc)) rfl | rfl) Tryz.underlying9 rfl ((hrw.up cx.ext).cell 1 rfl)) ?_
      refine s_gval rfl rfl rfl (by first | exact w_tt rfl | exact w_gt rfl) (fun hc => v_strNe rfl (by first | exact gve hc rfl | exact gve (and_l hc) rfl | exact gve (and_l (and_l hc)) rfl | rfl) rfl) ?_
      refine s_gval rfl rfl rfl (by first | exact w_tt rfl | exact w_gt rfl) (fun hc => v_move rfl (by first | exact gve hc rfl | exact gve (and_l hc) rfl | exact gve (and_l (and_l hc)) rfl | rfl)) ?_
      refine s_gval rfl rfl rfl (by first | exact w_ff rfl | exact w_gf rfl) (fun hc => v_move rfl hs0) ?_
      refine s_gval rfl rfl rfl (by first | exact w_ff rfl | exact w_gf rfl) (fun hc => v_move rfl hs3) ?_
      refine s_gval rfl rfl rfl (by first | exact w_ff rfl | exact w_gf rfl) (fun hc => v_ia Tryz.underlying28 sz107 rfl (by first | exact gve hc rfl | exact gve (and_l hc) rfl | exact gve (and_l (and_l hc)) rfl | rfl) (by first | exact gve hc rfl | exact gve (and_l hc) rfl | exact gve (and_l (and_l hc)) rfl | rfl) (by first | omega | (simp only [Bool.and_eq_true, Bool.or_eq_true, Bool.and_eq_false_iff, Bool.or_eq_false_iff, Bool.not_eq_true', Bool.not_eq_false', decide_eq_true_eq, decide_eq_false_iff_not, beq_iff_eq, beq_eq_false_iff_ne, bne_iff_ne, bne_eq_false_iff_eq, ne_eq, Classical.not_not] at hc; omega)) (by first | omega | (simp only [Bool.and_eq_true, Bool.or_eq_true, Bool.and_eq_false_iff, Bool.or_eq_false_iff, Bool.not_eq_true', Bool.not_eq_false', decide_eq_true_eq, decide_eq_false_iff_not, beq_iff_eq, beq_eq_false_iff_ne, bne_iff_ne, bne_eq_false_iff_eq, ne_eq, Classical.not_not] at hc; omega))) ?_
      refine s_gval rfl rfl rfl (by first | exact w_ff rfl | exact w_gf rfl) (fun hc => v_fa fa107_2 rfl (by first | exact gve hc rfl | exact gve (and_l hc) rfl | exact gve (and_l (and_l hc)) rfl | rfl)) ?_
      refine s_gval rfl rfl rfl (by first | exact w_ff rfl | exact w_gf rfl) (fun hc => v_load1 rfl (by first | exact gve hc rfl | exact gve (and_l hc) rfl | exact gve (and_l (and_l hc)) rfl | rfl) Tryz.underlying3 rfl ((hrw.up cx.ext).cell 2 rfl)) ?_
      refine s_gval rfl rfl rfl (by first | exact w_ff rfl | exact w_gf rfl) (fun hc => v_cmp rfl (by first | exact gve hc rfl | exact gve (and_l hc) rfl | exact gve (and_l (and_l hc)) rfl | rfl) rfl rfl) ?_
      refine s_gval rfl rfl rfl (by first | exact w_tt rfl | exact w_gt rfl) (fun hc => v_or_g hc rfl rfl rfl rfl) ?_
      refine s_gval rfl rfl rfl (by first | exact w_tt rfl | exact w_gt rfl) (fun hc => v_move rfl (by first | exact gve hc rfl | exact gve (and_l hc) rfl | exact gve (and_l (and_l hc)) rfl | rfl)) ?_
      refine s_gval rfl rfl rfl (by first | exact w_ff rfl | exact w_gf rfl) (fun hc => v_move rfl hs0) ?_
      refine s_gval rfl rfl rfl (by first | exact w_ff rfl | exact w_gf rfl) (fun hc => v_move rfl hs3) ?_
      refine s_gval rfl rfl rfl (by first | exact w_ff rfl | exact w_gf rfl) (fun hc => v_ia Tryz.underlying28 sz107 rfl (by first | exact gve hc rfl | exact gve (and_l hc) rfl | exact gve (and_l (and_l hc)) rfl | rfl) (by first | exact gve hc rfl | exact gve (and_l hc) rfl | exact gve (and_l (and_l hc)) rfl | rfl) (by first | omega | (simp only [Bool.and_eq_true, Bool.or_eq_true, Bool.and_eq_false_iff, Bool.or_eq_false_iff, Bool.not_eq_true', Bool.not_eq_false', decide_eq_true_eq, decide_eq_false_iff_not, beq_iff_eq, beq_eq_false_iff_ne, bne_iff_ne, bne_eq_false_iff_eq, ne_eq, Classical.not_not] at hc; omega)) (by first | omega | (simp only [Bool.and_eq_true, Bool.or_eq_true, Bool.and_eq_false_iff, Bool.or_eq_false_iff, Bool.not_eq_true', Bool.not_eq_false', decide_eq_true_eq, decide_eq_false_iff_not, beq_iff_eq, beq_eq_false_iff_ne, bne_iff_ne, bne_eq_false_iff_eq, ne_eq, Classical.not_not] at hc; omega))) ?_
      refine s_gval rfl rfl rfl (by first | exact w_ff rfl | exact w_gf rfl) (fun hc => v_fa fa107_2 rfl (by first | exact gve hc rfl | exact gve (and_l hc) rfl | exact gve (and_l (and_l hc)) rfl | rfl)) ?_
      refine s_gval rfl rfl rfl (by first | exact w_ff rfl | exact w_gf rfl) (fun hc => v_load1 rfl (by first | exact gve hc rfl | exact gve (and_l hc) rfl | exact gve (and_l (and_l hc)) rfl | rfl) Tryz.underlying3 rfl ((hrw.up cx.ext).cell 2 rfl)) ?_
      refine s_gval rfl rfl rfl (by first | exact w_ff rfl | exact w_gf rfl) (fun hc => v_cmp rfl (by first | exact gve hc rfl | exact gve (and_l hc) rfl | exact gve (and_l (and_l hc)) rfl | rfl) rfl rfl) ?_
      refine s_gval rfl rfl rfl (by first | exact w_tt rfl | exact w_gt rfl) (fun hc => v_or_g hc rfl rfl rfl rfl) ?_
      refine s_val rfl rfl (v_and rfl rfl rfl rfl) ?_
      refine wpList_nil ?_
      refine c_split rfl (fun hc41 => ?_) (fun hc41 => ?_)
      · skip
        try simp only [Bool.and_eq_true, Bool.or_eq_true, Bool.and_eq_false_iff, Bool.or_eq_false_iff, Bool.not_eq_true', Bool.not_eq_false', decide_eq_true_eq, decide_eq_false_iff_not, beq_iff_eq, beq_eq_false_iff_ne, bne_iff_ne, bne_eq_false_iff_eq, ne_eq, Classical.not_not] at hc41
        refine wp_seq ?_
        refine wp_region_lit ?_
        refine s_val rfl rfl (v_assign rfl rfl) ?_
        refine wpList_nil ?_
        refine wp_ret ?_
        refine ret_tmp Tryz.results15 rfl ?_
        refine ⟨cx.ext, _, rfl, (fun h => by cases h), fun h => ?_⟩
        exfalso
        have hx' := h.2 x (List.mem_of_getElem? hx)
        obtain ⟨h1, h2⟩ := hc41
        obtain ⟨h3, h4, h5⟩ := hx'.1 h1
        rcases h2 with (h2 | h2) | h2
        · exact h2 h3
        · omega
        · omega
      · skip
        try simp only [Bool.and_eq_true, Bool.or_eq_true, Bool.and_eq_false_iff, Bool.or_eq_false_iff, Bool.not_eq_true', Bool.not_eq_false', decide_eq_true_eq, decide_eq_false_iff_not, beq_iff_eq, beq_eq_false_iff_ne, bne_iff_ne, bne_eq_false_iff_eq, ne_eq, Classical.not_not] at hc41
        refine wp_skip ?_
        refine wp_seq ?_
        refine wp_region_lit ?_
        refine s_val rfl rfl (v_move rfl hs0) ?_
        refine s_val rfl rfl (v_move rfl hs3) ?_
        refine s_val rfl rfl (v_ia Tryz.underlying28 sz107 rfl rfl rfl (by omega) (by omega)) ?_
        refine s_val rfl rfl (v_fa fa107_0 rfl rfl) ?_
        refine s_val rfl rfl (v_load1 rfl rfl Tryz.underlying4 rfl ((hrw.up cx.ext).cell 0 rfl)) ?_
        refine s_val rfl rfl (v_not rfl rfl) ?_
        refine s_val rfl rfl (v_move rfl rfl) ?_
        refine s_gval rfl rfl rfl (by first | exact w_tt rfl | exact w_gt rfl) (fun hc => v_move rfl hs0) ?_
        refine s_gval rfl rfl rfl (by first | exact w_tt rfl | exact w_gt rfl) (fun hc => v_move rfl hs3) ?_
        refine s_gval rfl rfl rfl (by first | exact w_tt rfl | exact w_gt rfl) (fun hc => v_ia Tryz.underlying28 sz107 rfl (by first | exact gve hc rfl | exact gve (and_l hc) rfl | exact gve (and_l (and_l hc)) rfl | rfl) (by first | exact gve hc rfl | exact gve (and_l hc) rfl | exact gve (and_l (and_l hc)) rfl | rfl) (by first | omega | (simp only [Bool.and_eq_true, Bool.or_eq_true, Bool.and_eq_false_iff, Bool.or_eq_false_iff, Bool.not_eq_true', Bool.not_eq_false', decide_eq_true_eq, decide_eq_false_iff_not, beq_iff_eq, beq_eq_false_iff_ne, bne_iff_ne, bne_eq_false_iff_eq, ne_eq, Classical.not_not] at hc; omega)) (by first | omega | (simp only [Bool.and_eq_true, Bool.or_eq_true, Bool.and_eq_false_iff, Bool.or_eq_false_iff, Bool.not_eq_true', Bool.not_eq_false', decide_eq_true_eq, decide_eq_false_iff_not, beq_iff_eq, beq_eq_false_iff_ne, bne_iff_ne, bne_eq_false_iff_eq, ne_eq, Classical.not_not] at hc; omega))) ?_
        refine s_gval rfl rfl rfl (by first | exact w_tt rfl | exact w_gt rfl) (fun hc => v_fa fa107_2 rfl (by first | exact gve hc rfl | exact gve (and_l hc) rfl | exact gve (and_l (and_l hc)) rfl | rfl)) ?_
        refine s_gval rfl rfl rfl (by first | exact w_tt rfl | exact w_gt rfl) (fun hc => v_load1 rfl (by first | exact gve hc rfl | exact gve (and_l hc) rfl | exact gve (and_l (and_l hc)) rfl | rfl) Tryz.underlying3 rfl ((hrw.up cx.ext).cell 2 rfl)) ?_
        refine s_gval rfl rfl rfl (by first | exact w_tt rfl | exact w_gt rfl) (fun hc => v_cmp rfl (by first | exact gve hc rfl | exact gve (and_l hc) rfl | exact gve (and_l (and_l hc)) rfl | rfl) rfl rfl) ?_
        refine s_gval rfl rfl rfl (by first | exact w_tt rfl | exact w_gt rfl) (fun hc => v_move rfl (by first | exact gve hc rfl | exact gve (and_l hc) rfl | exact gve (and_l (and_l hc)) rfl | rfl)) ?_
        refine s_gval rfl rfl rfl (by first | exact w_ff rfl | exact w_gf rfl) (fun hc => v_move rfl hs0) ?_
        refine s_gval rfl rfl rfl (by first | exact w_ff rfl | exact w_gf rfl) (fun hc => v_move rfl hs3) ?_
        refine s_gval rfl rfl rfl (by first | exact w_ff rfl | exact w_gf rfl) (fun hc => v_ia Tryz.underlying28 sz107 rfl (by first | exact gve hc rfl | exact gve (and_l hc) rfl | exact gve (and_l (and_l hc)) rfl | rfl) (by first | exact gve hc rfl | exact gve (and_l hc) rfl | exact gve (and_l (and_l hc)) rfl | rfl) (by first | omega | (simp only [Bool.and_eq_true, Bool.or_eq_true, Bool.and_eq_false_iff, Bool.or_eq_false_iff, Bool.not_eq_true', Bool.not_eq_false', decide_eq_true_eq, decide_eq_false_iff_not, beq_iff_eq, beq_eq_false_iff_ne, bne_iff_ne, bne_eq_false_iff_eq, ne_eq, Classical.not_not] at hc; omega)) (by first | omega | (simp only [Bool.and_eq_true, Bool.or_eq_true, Bool.and_eq_false_iff, Bool.or_eq_false_iff, Bool.not_eq_true', Bool.not_eq_false', decide_eq_true_eq, decide_eq_false_iff_not, beq_iff_eq, beq_eq_false_iff_ne, bne_iff_ne, bne_eq_false_iff_eq, ne_eq, Classical.not_not] at hc; omega))) ?_
        refine s_gval rfl rfl rfl (by first | exact w_ff rfl | exact w_gf rfl) (fun hc => v_fa fa107_1 rfl (by first | exact gve hc rfl | exact gve (and_l hc) rfl | exact gve (and_l (and_l hc)) rfl | rfl)) ?_
        refine s_gval rfl rfl rfl (by first | exact w_ff rfl | exact w_gf rfl) (fun hc => v_load1 rfl (by first | exact gve hc rfl | exact gve (and_l hc) rfl | exact gve (and_l (and_l hc)) rfl | rfl) Tryz.underlying9 rfl ((hrw.up cx.ext).cell 1 rfl)) ?_
        refine s_gval rfl rfl rfl (by first | exact w_ff rfl | exact w_gf rfl) (fun hc => v_lenString rfl (by first | exact gve hc rfl | exact gve (and_l hc) rfl | exact gve (and_l (and_l hc)) rfl | rfl) Tryz.underlying9) ?_
        refine s_gval rfl rfl rfl (by first | exact w_ff rfl | exact w_gf rfl) (fun hc => v_cmp rfl (by first | exact gve hc rfl | exact gve (and_l hc) rfl | exact gve (and_l (and_l hc)) rfl | rfl) rfl rfl) ?_
        refine s_gval rfl rfl rfl (by first | exact w_tt rfl | exact w_gt rfl) (fun hc => v_or_g hc rfl rfl rfl rfl) ?_
        refine s_gval rfl rfl rfl (by first | exact w_tt rfl | exact w_gt rfl) (fun hc => v_move rfl (by first | exact gve hc rfl | exact gve (and_l hc) rfl | exact gve (and_l (and_l hc)) rfl | rfl)) ?_
        refine s_gval rfl rfl rfl (by first | exact w_ff rfl | exact w_gf rfl) (fun hc => v_move rfl hs0) ?_
        refine s_gval rfl rfl rfl (by first | exact w_ff rfl | exact w_gf rfl) (fun hc => v_move rfl hs3) ?_
        refine s_gval rfl rfl rfl (by first | exact w_ff rfl | exact w_gf rfl) (fun hc => v_ia Tryz.underlying28 sz107 rfl (by first | exact gve hc rfl | exact gve (and_l hc) rfl | exact gve (and_l (and_l hc)) rfl | rfl) (by first | exact gve hc rfl | exact gve (and_l hc) rfl | exact gve (and_l (and_l hc)) rfl | rfl) (by first | omega | (simp only [Bool.and_eq_true, Bool.or_eq_true, Bool.and_eq_false_iff, Bool.or_eq_false_iff, Bool.not_eq_true', Bool.not_eq_false', decide_eq_true_eq, decide_eq_false_iff_not, beq_iff_eq, beq_eq_false_iff_ne, bne_iff_ne, bne_eq_false_iff_eq, ne_eq, Classical.not_not] at hc; omega)) (by first | omega | (simp only [Bool.and_eq_true, Bool.or_eq_true, Bool.and_eq_false_iff, Bool.or_eq_false_iff, Bool.not_eq_true', Bool.not_eq_false', decide_eq_true_eq, decide_eq_false_iff_not, beq_iff_eq, beq_eq_false_iff_ne, bne_iff_ne, bne_eq_false_iff_eq, ne_eq, Classical.not_not] at hc; omega))) ?_
        refine s_gval rfl rfl rfl (by first | exact w_ff rfl | exact w_gf rfl) (fun hc => v_fa fa107_1 rfl (by first | exact gve hc rfl | exact gve (and_l hc) rfl | exact gve (and_l (and_l hc)) rfl | rfl)) ?_
        refine s_gval rfl rfl rfl (by first | exact w_ff rfl | exact w_gf rfl) (fun hc => v_load1 rfl (by first | exact gve hc rfl | exact gve (and_l hc) rfl | exact gve (and_l (and_l hc)) rfl | rfl) Tryz.underlying9 rfl ((hrw.up cx.ext).cell 1 rfl)) ?_
        refine s_gfnB cx rfl rfl rfl (by first | exact w_ff rfl | exact w_gf rfl) (fun hc => c44 x.key _ (by first | omega | (simp only [Bool.and_eq_true, Bool.or_eq_true, Bool.and_eq_false_iff, Bool.or_eq_false_iff, Bool.not_eq_true', Bool.not_eq_false', decide_eq_true_eq, decide_eq_false_iff_not, beq_iff_eq, beq_eq_false_iff_ne, bne_iff_ne, bne_eq_false_iff_eq, ne_eq, Classical.not_not] at hc; omega))) Tryz.func44 rfl rfl rfl (fun hc => (cons_eq (by first | exact gve hc rfl | exact gve (and_l hc) rfl | exact gve (and_l (and_l hc)) rfl | rfl) rfl)) ?_; intro q70 w cx hw70 hp70
        refine s_gval rfl rfl rfl (by first | exact w_ff rfl | exact w_gf rfl) (fun hc => v_not rfl (by first | exact gve hc rfl | exact gve (and_l hc) rfl | exact gve (and_l (and_l hc)) rfl | rfl)) ?_
        refine s_gval rfl rfl rfl (by first | exact w_tt rfl | exact w_gt rfl) (fun hc => v_or_g hc rfl rfl rfl rfl) ?_
        refine s_val rfl rfl (v_and rfl rfl rfl rfl) ?_
        refine wpList_nil ?_
        refine c_split rfl (fun hc73 => ?_) (fun hc73 => ?_)
        · skip
          try simp only [Bool.and_eq_true, Bool.or_eq_true, Bool.and_eq_false_iff, Bool.or_eq_false_iff, Bool.not_eq_true', Bool.not_eq_false', decide_eq_true_eq, decide_eq_false_iff_not, beq_iff_eq, beq_eq_false_iff_ne, bne_iff_ne, bne_eq_false_iff_eq, ne_eq, Classical.not_not] at hc73
          refine wp_seq ?_
          refine wp_region_lit ?_
          refine s_val rfl rfl (v_assign rfl rfl) ?_
          refine wpList_nil ?_
          refine wp_ret ?_
          refine ret_tmp Tryz.results15 rfl ?_
          refine ⟨cx.ext, _, rfl, (fun h => by cases h), fun h => ?_⟩
          exfalso
          have hx' := h.2 x (List.mem_of_getElem? hx)
          obtain ⟨h1, h2⟩ := hc73
          obtain ⟨h3, h4, h5⟩ := hx'.2 h1
          rcases h2 with (h2 | h2) | h2
          · exact h2 h3
          · omega
          · rw [hp70 (by first | (simp [h1, h3]; omega) | simp [h1, h3, h4]), h5] at h2
            cases h2
        · skip
          try simp only [Bool.and_eq_true, Bool.or_eq_true, Bool.and_eq_false_iff, Bool.or_eq_false_iff, Bool.not_eq_true', Bool.not_eq_false', decide_eq_true_eq, decide_eq_false_iff_not, beq_iff_eq, beq_eq_false_iff_ne, bne_iff_ne, bne_eq_false_iff_eq, ne_eq, Classical.not_not] at hc73
          refine wp_skip ?_
          refine wp_region_lit ?_
          refine s_val rfl rfl (v_move rfl hs3) ?_
          refine s_val rfl rfl (v_add rfl rfl rfl (by omega) (by omega)) ?_
          refine s_val rfl rfl (v_assign rfl rfl) ?_
          refine wpList_nil ?_
          refine ⟨gk4 - 1, _, by omega, rfl, i + 1, by omega, hs0, rfl, fun y hy => ?_, cx⟩
          obtain ⟨hi, e⟩ := List.getElem?_eq_some_iff.1 hx
          rw [List.take_succ_eq_append_getElem hi] at hy
          rcases List.mem_append.1 hy with hy | hy
          · exact hall y hy
          · rw [e] at hy
            obtain rfl := List.mem_singleton.1 hy
            refine ⟨fun h => ?_, fun h => ?_⟩
            · rcases hc41 with h1 | h1
              · rw [h] at h1; cases h1
              · exact ⟨h1.1.1, by omega, by omega⟩
            · rcases hc73 with h1 | h1
              · rw [h] at h1; cases h1
              · obtain ⟨⟨h2, h3⟩, h4⟩ := h1
                refine ⟨h2, by omega, ?_⟩
                rw [← hp70 (by first | (simp [h, h2]; omega) | simp [h, h2, h3])]
                exact h4
    · skip
      try simp only [Bool.and_eq_true, Bool.or_eq_true, Bool.and_eq_false_iff, Bool.or_eq_false_iff, Bool.not_eq_true', Bool.not_eq_false', decide_eq_true_eq, decide_eq_false_iff_not, beq_iff_eq, beq_eq_false_iff_ne, bne_iff_ne, bne_eq_false_iff_eq, ne_eq, Classical.not_not] at hc10
      refine wp_exit ?_
      refine wp_seq ?_
      refine wp_region_lit ?_
      refine s_val rfl rfl (v_assign rfl rfl) ?_
      refine wpList_nil ?_
      refine wp_ret ?_
      refine ret_tmp Tryz.results15 rfl ?_
      refine ⟨cx.ext, _, rfl, fun _ => ⟨by omega, ?_⟩, fun _ => rfl⟩
      have e : i = l.length := by omega
      subst e
      rw [List.take_length] at hall
      exact hall
set_option maxRecDepth 10000 in
theorem c40 (v : Value) (l : List Stp) (w0 : World) (hv : Pth w0 v l) (hl : l.length ≤ 140737488355328) : Fc Tryz.prog 40 [v] w0 (IsB fun b => b = true ↔ GdP l) := by
  obtain ⟨a, c, b, o, rfl, ha, hr⟩ := hv.form
  refine ret_enter Tryz.func40 rfl Tryz.ntmps40 rfl ?_
  have cx := Ctx.start w0
  refine wp_seq ?_
  refine wp_region_lit ?_
  refine s_val rfl rfl (v_assign rfl rfl) ?_
  refine wpList_nil ?_
  refine wp_seq ?_
  refine wp_seq ?_
  refine wp_region_lit ?_
  refine s_val rfl rfl (v_move rfl rfl) ?_
  refine s_val rfl rfl (v_lenSlice rfl rfl Tryz.underlying28) ?_
  refine s_val rfl rfl (v_cmp rfl rfl rfl rfl) ?_
  refine wpList_nil ?_
  refine c_split rfl (fun hc7 => ?_) (fun hc7 => ?_)
  · skip
    try simp only [Bool.and_eq_true, Bool.or_eq_true, Bool.and_eq_false_iff, Bool.or_eq_false_iff, Bool.not_eq_true', Bool.not_eq_false', decide_eq_true_eq, decide_eq_false_iff_not, beq_iff_eq, beq_eq_false_iff_ne, bne_iff_ne, bne_eq_false_iff_eq, ne_eq, Classical.not_not] at hc7
    refine wp_seq ?_
    refine wp_region_lit ?_
    refine s_val rfl rfl (v_assign rfl rfl) ?_
    refine wpList_nil ?_
    refine wp_ret ?_
    refine ret_tmp Tryz.results40 rfl ?_
    refine ⟨cx.ext, _, rfl, (fun h => by cases h), fun h => ?_⟩
    have := h.1
    omega
  · skip
    try simp only [Bool.and_eq_true, Bool.or_eq_true, Bool.and_eq_false_iff, Bool.or_eq_false_iff, Bool.not_eq_true', Bool.not_eq_false', decide_eq_true_eq, decide_eq_false_iff_not, beq_iff_eq, beq_eq_false_iff_ne, bne_iff_ne, bne_eq_false_iff_eq, ne_eq, Classical.not_not] at hc7
    refine wp_skip ?_
    refine wp_seq ?_
    refine wp_seq ?_
    refine wp_region_lit ?_
    refine s_val rfl rfl (v_move rfl rfl) ?_
    refine s_val rfl rfl (v_lenSlice rfl rfl Tryz.underlying28) ?_
    refine s_val rfl rfl (v_move rfl rfl) ?_
    refine wpList_nil ?_
    refine wp_block ?_
    refine w_loop (fun k f w1 => ∃ i : Nat, k + i = l.length ∧ f 8 = .slice a l.length c ∧ f 9 = .int .i64 l.length ∧ f 10 = .int .i64 i ∧ (∀ x ∈ l.take i, Stv x) ∧ Ctx w0 w1 []) (l.length) ?_ ?_
    · skip
      exact ⟨0, by omega, rfl, rfl, rfl, by simp, cx⟩
    intro gk4 f w hJ
    obtain ⟨i, hk, hs8, hs9, hs10, hall, cx⟩ := hJ
    refine wp_seq ?_
    refine wp_region_lit ?_
    refine s_val rfl rfl (v_cmp rfl hs10 hs9 rfl) ?_
    refine wpList_nil ?_
    refine wp_seq ?_
    refine c_split rfl (fun hc11 => ?_) (fun hc11 => ?_)
    · skip
      try simp only [Bool.and_eq_true, Bool.or_eq_true, Bool.and_eq_false_iff, Bool.or_eq_false_iff, Bool.not_eq_true', Bool.not_eq_false', decide_eq_true_eq, decide_eq_false_iff_not, beq_iff_eq, beq_eq_false_iff_ne, bne_iff_ne, bne_eq_false_iff_eq, ne_eq, Classical.not_not] at hc11
      obtain ⟨x, hx⟩ : ∃ x, l[i]? = some x := ⟨l[i]'(by omega), List.getElem?_eq_getElem _⟩
      have hrw := hr i x hx
      obtain rfl := ha (by omega)
      refine wp_skip ?_
      refine wp_seq ?_
      refine wp_block ?_
      refine wp_seq ?_
      refine wp_region_lit ?_
      refine s_val rfl rfl (v_ia Tryz.underlying28 sz107 rfl hs8 hs10 (by omega) (by omega)) ?_
      refine s_val rfl rfl (v_load rfl rfl Tryz.underlying107 rfl sz107 (hrw.up cx.ext) rfl) ?_
      refine s_alloc cx z107 rfl rfl rfl ?_; intro b4 w cx hb4 hw4
      refine s_storeAll cx 0 rfl rfl rfl rfl rfl rfl sz107 rfl rfl ?_; intro w cx hwS
      refine wpList_nil ?_
      refine wp_seq ?_
      refine wp_region_lit ?_
      refine s_val rfl rfl (v_fa fa107_0 rfl rfl) ?_
      refine s_val rfl rfl (v_load1 rfl rfl Tryz.underlying4 rfl (cx.cell 0 rfl rfl)) ?_
      refine wpList_nil ?_
      refine c_split rfl (fun hc15 => ?_) (fun hc15 => ?_)
      · skip
        try simp only [Bool.and_eq_true, Bool.or_eq_true, Bool.and_eq_false_iff, Bool.or_eq_false_iff, Bool.not_eq_true', Bool.not_eq_false', decide_eq_true_eq, decide_eq_false_iff_not, beq_iff_eq, beq_eq_false_iff_ne, bne_iff_ne, bne_eq_false_iff_eq, ne_eq, Classical.not_not] at hc15
        refine wp_seq ?_
        refine wp_region_lit ?_
        refine s_val rfl rfl (v_fa fa107_1 rfl rfl) ?_
        refine s_val rfl rfl (v_load1 rfl rfl Tryz.underlying9 rfl (cx.cell 0 rfl rfl)) ?_
        refine s_val rfl rfl (v_strNe rfl rfl rfl) ?_
        refine s_val rfl rfl (v_move rfl rfl) ?_
        refine s_gval rfl rfl rfl (by first | exact w_ff rfl | exact w_gf rfl) (fun hc => v_fa fa107_2 rfl (by first | exact gve hc rfl | exact gve (and_l hc) rfl | exact gve (and_l (and_l hc)) rfl | rfl)) ?_
        refine s_gval rfl rfl rfl (by first | exact w_ff rfl | exact w_gf rfl) (fun hc => v_load1 rfl (by first | exact gve hc rfl | exact gve (and_l hc) rfl | exact gve (and_l (and_l hc)) rfl | rfl) Tryz.underlying3 rfl (cx.cell 0 rfl rfl)) ?_
        refine s_gval rfl rfl rfl (by first | exact w_ff rfl | exact w_gf rfl) (fun hc => v_cmp rfl (by first | exact gve hc rfl | exact gve (and_l hc) rfl | exact gve (and_l (and_l hc)) rfl | rfl) rfl rfl) ?_
        refine s_val rfl rfl (v_or rfl rfl rfl rfl) ?_
        refine s_val rfl rfl (v_move rfl rfl) ?_
        refine s_gval rfl rfl rfl (by first | exact w_ff rfl | exact w_gf rfl) (fun hc => v_fa fa107_2 rfl (by first | exact gve hc rfl | exact gve (and_l hc) rfl | exact gve (and_l (and_l hc)) rfl | rfl)) ?_
        refine s_gval rfl rfl rfl (by first | exact w_ff rfl | exact w_gf rfl) (fun hc => v_load1 rfl (by first | exact gve hc rfl | exact gve (and_l hc) rfl | exact gve (and_l (and_l hc)) rfl | rfl) Tryz.underlying3 rfl (cx.cell 0 rfl rfl)) ?_
        refine s_gval rfl rfl rfl (by first | exact w_ff rfl | exact w_gf rfl) (fun hc => v_cmp rfl (by first | exact gve hc rfl | exact gve (and_l hc) rfl | exact gve (and_l (and_l hc)) rfl | rfl) rfl rfl) ?_
        refine s_val rfl rfl (v_or rfl rfl rfl rfl) ?_
        refine wpList_nil ?_
        refine c_split rfl (fun hc28 => ?_) (fun hc28 => ?_)
        · skip
          try simp only [Bool.and_eq_true, Bool.or_eq_true, Bool.and_eq_false_iff, Bool.or_eq_false_iff, Bool.not_eq_true', Bool.not_eq_false', decide_eq_true_eq, decide_eq_false_iff_not, beq_iff_eq, beq_eq_false_iff_ne, bne_iff_ne, bne_eq_false_iff_eq, ne_eq, Classical.not_not] at hc28
          refine wp_seq ?_
          refine wp_region_lit ?_
          refine s_val rfl rfl (v_assign rfl rfl) ?_
          refine wpList_nil ?_
          refine wp_ret ?_
          refine ret_tmp Tryz.results40 rfl ?_
          refine ⟨cx.ext, _, rfl, (fun h => by cases h), fun h => ?_⟩
          exfalso
          have hx' := h.2 x (List.mem_of_getElem? hx)
          obtain ⟨h3, h4, h5⟩ := hx'.1 hc15
          rcases hc28 with (h2 | h2) | h2
          · exact h2 h3
          · omega
          · omega
        · skip
          try simp only [Bool.and_eq_true, Bool.or_eq_true, Bool.and_eq_false_iff, Bool.or_eq_false_iff, Bool.not_eq_true', Bool.not_eq_false', decide_eq_true_eq, decide_eq_false_iff_not, beq_iff_eq, beq_eq_false_iff_ne, bne_iff_ne, bne_eq_false_iff_eq, ne_eq, Classical.not_not] at hc28
          refine wp_skip ?_
          refine wp_region_lit ?_
          refine s_val rfl rfl (v_add rfl hs10 rfl (by omega) (by omega)) ?_
          refine s_val rfl rfl (v_move rfl rfl) ?_
          refine wpList_nil ?_
          refine ⟨gk4 - 1, _, by omega, rfl, i + 1, by omega, hs8, hs9, rfl, fun y hy => ?_, Ctx.sub0 cx⟩
          obtain ⟨hi, e⟩ := List.getElem?_eq_some_iff.1 hx
          rw [List.take_succ_eq_append_getElem hi] at hy
          rcases List.mem_append.1 hy with hy | hy
          · exact hall y hy
          · rw [e] at hy
            obtain rfl := List.mem_singleton.1 hy
            refine ⟨fun h => ?_, fun h => ?_⟩
            · exact ⟨hc28.1.1, by omega, by omega⟩
            · rw [h] at hc15; cases hc15
      · skip
        try simp only [Bool.and_eq_true, Bool.or_eq_true, Bool.and_eq_false_iff, Bool.or_eq_false_iff, Bool.not_eq_true', Bool.not_eq_false', decide_eq_true_eq, decide_eq_false_iff_not, beq_iff_eq, beq_eq_false_iff_ne, bne_iff_ne, bne_eq_false_iff_eq, ne_eq, Classical.not_not] at hc15
        refine wp_seq ?_
        refine wp_region_lit ?_
        refine s_val rfl rfl (v_fa fa107_2 rfl rfl) ?_
        refine s_val rfl rfl (v_load1 rfl rfl Tryz.underlying3 rfl (cx.cell 0 rfl rfl)) ?_
        refine s_val rfl rfl (v_cmp rfl rfl rfl rfl) ?_
        refine s_val rfl rfl (v_move rfl rfl) ?_
        refine s_gval rfl rfl rfl (by first | exact w_ff rfl | exact w_gf rfl) (fun hc => v_fa fa107_1 rfl (by first | exact gve hc rfl | exact gve (and_l hc) rfl | exact gve (and_l (and_l hc)) rfl | rfl)) ?_
        refine s_gval rfl rfl rfl (by first | exact w_ff rfl | exact w_gf rfl) (fun hc => v_load1 rfl (by first | exact gve hc rfl | exact gve (and_l hc) rfl | exact gve (and_l (and_l hc)) rfl | rfl) Tryz.underlying9 rfl (cx.cell 0 rfl rfl)) ?_
        refine s_gval rfl rfl rfl (by first | exact w_ff rfl | exact w_gf rfl) (fun hc => v_lenString rfl (by first | exact gve hc rfl | exact gve (and_l hc) rfl | exact gve (and_l (and_l hc)) rfl | rfl) Tryz.underlying9) ?_
        refine s_gval rfl rfl rfl (by first | exact w_ff rfl | exact w_gf rfl) (fun hc => v_cmp rfl (by first | exact gve hc rfl | exact gve (and_l hc) rfl | exact gve (and_l (and_l hc)) rfl | rfl) rfl rfl) ?_
        refine s_val rfl rfl (v_or rfl rfl rfl rfl) ?_
        refine s_val rfl rfl (v_move rfl rfl) ?_
        refine s_gval rfl rfl rfl (by first | exact w_ff rfl | exact w_gf rfl) (fun hc => v_fa fa107_1 rfl (by first | exact gve hc rfl | exact gve (and_l hc) rfl | exact gve (and_l (and_l hc)) rfl | rfl)) ?_
        refine s_gval rfl rfl rfl (by first | exact w_ff rfl | exact w_gf rfl) (fun hc => v_load1 rfl (by first | exact gve hc rfl | exact gve (and_l hc) rfl | exact gve (and_l (and_l hc)) rfl | rfl) Tryz.underlying9 rfl (cx.cell 0 rfl rfl)) ?_
        refine s_gfnB cx rfl rfl rfl (by first | exact w_ff rfl | exact w_gf rfl) (fun hc => c92 x.key _ (by first | omega | (simp only [Bool.and_eq_true, Bool.or_eq_true, Bool.and_eq_false_iff, Bool.or_eq_false_iff, Bool.not_eq_true', Bool.not_eq_false', decide_eq_true_eq, decide_eq_false_iff_not, beq_iff_eq, beq_eq_false_iff_ne, bne_iff_ne, bne_eq_false_iff_eq, ne_eq, Classical.not_not] at hc; omega))) Tryz.func92 rfl rfl rfl (fun hc => (cons_eq (by first | exact gve hc rfl | exact gve (and_l hc) rfl | exact gve (and_l (and_l hc)) rfl | rfl) rfl)) ?_; intro q41 w cx hw41 hp41
        refine s_gval rfl rfl rfl (by first | exact w_ff rfl | exact w_gf rfl) (fun hc => v_not rfl (by first | exact gve hc rfl | exact gve (and_l hc) rfl | exact gve (and_l (and_l hc)) rfl | rfl)) ?_
        refine s_val rfl rfl (v_or rfl rfl rfl rfl) ?_
        refine wpList_nil ?_
        refine c_split rfl (fun hc43 => ?_) (fun hc43 => ?_)
        · skip
          try simp only [Bool.and_eq_true, Bool.or_eq_true, Bool.and_eq_false_iff, Bool.or_eq_false_iff, Bool.not_eq_true', Bool.not_eq_false', decide_eq_true_eq, decide_eq_false_iff_not, beq_iff_eq, beq_eq_false_iff_ne, bne_iff_ne, bne_eq_false_iff_eq, ne_eq, Classical.not_not] at hc43
          refine wp_seq ?_
          refine wp_region_lit ?_
          refine s_val rfl rfl (v_assign rfl rfl) ?_
          refine wpList_nil ?_
          refine wp_ret ?_
          refine ret_tmp Tryz.results40 rfl ?_
          refine ⟨cx.ext, _, rfl, (fun h => by cases h), fun h => ?_⟩
          exfalso
          have hx' := h.2 x (List.mem_of_getElem? hx)
          obtain ⟨h3, h4, h5⟩ := hx'.2 hc15
          rcases hc43 with (h2 | h2) | h2
          · exact h2 h3
          · omega
          · rw [hp41 (by first | (simp [h3]; omega) | simp [h3, h4]), h5] at h2
            cases h2
        · skip
          try simp only [Bool.and_eq_true, Bool.or_eq_true, Bool.and_eq_false_iff, Bool.or_eq_false_iff, Bool.not_eq_true', Bool.not_eq_false', decide_eq_true_eq, decide_eq_false_iff_not, beq_iff_eq, beq_eq_false_iff_ne, bne_iff_ne, bne_eq_false_iff_eq, ne_eq, Classical.not_not] at hc43
          refine wp_skip ?_
          refine wp_region_lit ?_
          refine s_val rfl rfl (v_add rfl hs10 rfl (by omega) (by omega)) ?_
          refine s_val rfl rfl (v_move rfl rfl) ?_
          refine wpList_nil ?_
          refine ⟨gk4 - 1, _, by omega, rfl, i + 1, by omega, hs8, hs9, rfl, fun y hy => ?_, Ctx.sub0 cx⟩
          obtain ⟨hi, e⟩ := List.getElem?_eq_some_iff.1 hx
          rw [List.take_succ_eq_append_getElem hi] at hy
          rcases List.mem_append.1 hy with hy | hy
          · exact hall y hy
          · rw [e] at hy
            obtain rfl := List.mem_singleton.1 hy
            refine ⟨fun h => ?_, fun h => ?_⟩
            · rw [h] at hc15; cases hc15
            · obtain ⟨⟨h2, h3⟩, h4⟩ := hc43
              refine ⟨h2, by omega, ?_⟩
              rw [← hp41 (by first | (simp [h2]; omega) | simp [h2, h3])]
              exact h4
    · skip
      try simp only [Bool.and_eq_true, Bool.or_eq_true, Bool.and_eq_false_iff, Bool.or_eq_false_iff, Bool.not_eq_true', Bool.not_eq_false', decide_eq_true_eq, decide_eq_false_iff_not, beq_iff_eq, beq_eq_false_iff_ne, bne_iff_ne, bne_eq_false_iff_eq, ne_eq, Classical.not_not] at hc11
      refine wp_exit ?_
      refine wp_seq ?_
      refine wp_region_lit ?_
      refine s_val rfl rfl (v_assign rfl rfl) ?_
      refine wpList_nil ?_
      refine wp_ret ?_
      refine ret_tmp Tryz.results40 rfl ?_
      refine ⟨cx.ext, _, rfl, fun _ => ⟨by omega, ?_⟩, fun _ => rfl⟩
      have e : i = l.length := by omega
      subst e
      rw [List.take_length] at hall
      exact hall
end Go.Proofs.YthiafbkolhnadaaGreatDoor
end
section
set_option linter.unusedVariables false
set_option linter.unusedSimpArgs false
namespace Go.Dk
open Go Go.RowKit Go.Lib
theorem cut_at (a z : List UInt8) (m : Int) (h : m = a.length) : (a ++ z).take m.toNat = a ∧ (a ++ z).drop m.toNat = z := by
  subst h
  simp
theorem itoa_6 {n : Int} (h0 : 0 ≤ n) (h1 : n ≤ 65536) : (itoa n).length ≤ 6 := by
  have h3 : n = ((n.toNat : Nat) : Int) := by omega
  rw [h3, itoa_nat]
  exact decDigits_len 5 n.toNat (by omega)
theorem idx_93 {n : Int} (h0 : 0 ≤ n) (z : List UInt8) (m : Nat) (hm : m ≤ (itoa n).length) : ((itoa n ++ 93 :: z).getD m 0).toNat = 93 ↔ m = (itoa n).length := by
  constructor
  · intro h
    rcases Nat.lt_or_ge m (itoa n).length with h1 | h1
    · exfalso
      rw [List.getD, List.getElem?_append_left h1, List.getElem?_eq_getElem h1] at h
      have := itoa_dgc h0 _ (List.getElem_mem h1)
      unfold dgc at this
      simp only [Option.getD_some] at h
      omega
    · omega
  · rintro rfl
    rw [getD_at _ _ _ rfl]
    rfl
theorem take_srow {l : List Stp} {i : Nat} {x : Stp} (h : l[i]? = some x) : (l.take i).flatMap srow ++ srow x = (l.take (i + 1)).flatMap srow := by
  rw [take_snoc h, List.flatMap_append]
  simp
theorem Cxr.rowSl {w0 w : World} {L : List (Nat × Obj)} {R : List Row} {e k n : Nat} {v : Value} {xs : List Value} (h : Cxr w0 w L (⟨e, k, v, n, xs⟩ :: R)) : ∃ a c, v = .slice a n c := by
  have hrow := h.rows _ (List.mem_cons_self ..)
  simp only at hrow
  rcases hrow.2 with ⟨h1, h2⟩ | ⟨g, cap, cur, h1, h2⟩
  · exact ⟨none, 0, by rw [h1, h2]⟩
  · exact ⟨_, _, h1⟩
theorem srows_len (l : List Stp) : (l.flatMap srow).length = 3 * l.length := by
  induction l with
  | nil => rfl
  | cons s l ih => rw [List.flatMap_cons, List.length_append, ih]; simp only [srow, List.length_cons, List.length_nil]; omega
theorem pth_row {w0 w : World} {L : List (Nat × Obj)} {R : List Row} {e : Nat} {v : Value} {n : Nat} {l : List Stp} (h : Cxr w0 w L (⟨e, 3, v, n, l.flatMap srow⟩ :: R)) (hn : n = l.length) (h0 : 0 < l.length) : Pth w v l := by
  obtain ⟨g, c, rfl, hc, hg, hr⟩ := h.rowS (by rw [srows_len]; omega)
  exact Pth.ofRow hg hn hc hr
theorem path_cons (s : Stp) (l : List Stp) : pathT (s :: l) = (if s.byIndex then [46] else []) ++ rstS (s :: l) 0 := rfl
theorem path_ne1 {l : List Stp} (h : 0 < l.length) : pathT l ≠ [46] := by
  cases l with
  | nil => simp at h
  | cons s l =>
    intro e
    have h1 := congrArg List.length e
    have h2 := step_two s
    rw [path_cons] at h1
    unfold rstS at h1
    simp only [List.drop_zero, List.flatMap_cons, List.length_append, List.length_singleton] at h1
    omega
theorem path_T {l : List Stp} (hl : ∀ s ∈ l, Stv s) (h0 : 0 < l.length) (h : (pathT l).take 2 = [46, 91]) : (pathT l).drop 1 = rstS l 0 := by
  cases l with
  | nil => simp at h0
  | cons s l =>
    rw [path_cons] at h ⊢
    by_cases hb : s.byIndex = true
    · rw [if_pos hb]
      rfl
    · exfalso
      rw [if_neg hb, List.nil_append] at h
      obtain ⟨x, hx, hc⟩ := rstS_case (s :: l) hl 0 (by simp)
      simp only [List.getElem?_cons_zero, Option.some.injEq] at hx
      subst hx
      rcases hc with ⟨n, h1, h2, h3, h4⟩ | ⟨k, h1, h2, h3, h4⟩ | ⟨k, h1, h2, h3⟩
      · rw [h1] at hb; exact hb rfl
      · rw [h4] at h
        cases hk : k.data.toList with
        | nil => exact isNm_ne h3 hk
        | cons c t =>
          rw [hk] at h
          simp only [List.cons_append, List.take_succ_cons, List.take_zero, List.cons.injEq, true_and, and_true] at h
          have := isNm_all h3 c (by rw [hk]; simp)
          rw [h] at this
          unfold nmc lowc digc at this
          revert this; decide
      · rw [h3] at h
        simp at h
theorem path_F {l : List Stp} (h0 : 0 < l.length) (h : ¬ (1 < (pathT l).length ∧ (pathT l).take 2 = [46, 91])) : pathT l = rstS l 0 := by
  cases l with
  | nil => simp at h0
  | cons s l =>
    rw [path_cons] at h ⊢
    by_cases hb : s.byIndex = true
    · exfalso
      rw [if_pos hb] at h
      obtain ⟨t, ht⟩ := step_head s
      rw [if_pos hb] at ht
      apply h
      unfold rstS
      simp [ht]
    · rw [if_neg hb]
      rfl
theorem name_34 (k : ByteArray) (z : List UInt8) (hk : isNm k) : ((k.data.toList ++ z).getD 0 0).toNat ≠ 34 := by
  intro h
  cases hl : k.data.toList with
  | nil => exact isNm_ne hk hl
  | cons c t =>
    rw [hl] at h
    have := isNm_all hk c (by rw [hl]; simp)
    simp only [List.cons_append, List.getD_cons_zero] at h
    unfold nmc lowc digc at this
    omega
theorem cut_q (k z : List UInt8) : (34 :: (qtd k ++ 34 :: z)).drop (Int.toNat (((qtd k).length + 2 : Nat) : Int)) = z := by
  have e : 34 :: (qtd k ++ 34 :: z) = (34 :: (qtd k ++ [34])) ++ z := by simp
  rw [e]
  exact (cut_at _ _ _ (by simp only [List.length_append, List.length_cons, List.length_nil]; try omega)).2
end Go.Dk
end
section
set_option linter.unusedSimpArgs false
set_option linter.unusedVariables false
namespace Go.Proofs.YthiafbkolhnadaaGreatDoor
open Go Go.Dk Go.RowKit Go.Lib
attribute [local irreducible] Go.wpList Go.Code.wp Go.bodyPost Go.wpStill Go.wpQuiet
theorem bdA107 (m : Int) (w : World) : (Instr.build 107 ([(0, .bool true), (2, .int .i64 m)] : List (Nat × Value)).toArray).run Tryz.prog w = .ok (.agg #[.bool true, .string ByteArray.empty, .int .i64 m]) w := by
  go_simp
  try rfl
theorem bdK107 (s : ByteArray) (w : World) : (Instr.build 107 ([(1, .string s)] : List (Nat × Value)).toArray).run Tryz.prog w = .ok (.agg #[.bool false, .string s, .int .i64 0]) w := by
  go_simp
  try rfl
set_option maxHeartbeats 4000000 in
set_option maxRecDepth 10000 in
theorem c175 (m : Int) (w0 : World) : Fc Tryz.prog 175 [.int .i64 m] w0 (fun v _ => v = .agg #[.bool true, .string ByteArray.empty, .int .i64 m]) := by
  refine ret_enter Tryz.func175 rfl Tryz.ntmps175 rfl ?_
  have cx := Ctx.start w0
  refine wp_seq ?_
  refine wp_region_lit ?_
  refine s_alloc cx z107 rfl rfl rfl ?_; intro b2 w cx hb2 hw2
  refine wpList_nil ?_
  refine wp_seq ?_
  refine wp_region_lit ?_
  refine s_val rfl rfl (v_move rfl rfl) ?_
  refine s_val rfl rfl (v_build (qs := [(0, .bool true), (2, .int .i64 m)]) (bdA107 _) rfl rfl) ?_
  refine s_storeAll cx 0 rfl rfl rfl rfl rfl rfl sz107 rfl rfl ?_; intro w cx hwS1
  refine wpList_nil ?_
  refine wp_ret ?_
  refine ret_cell Tryz.results175 rfl (cx.at 0 rfl) Tryz.underlying107 rfl sz107 ?_
  exact ⟨cx.ext, rfl⟩
set_option maxHeartbeats 4000000 in
set_option maxRecDepth 10000 in
theorem c177 (s : ByteArray) (w0 : World) : Fc Tryz.prog 177 [.string s] w0 (fun v _ => v = .agg #[.bool false, .string s, .int .i64 0]) := by
  refine ret_enter Tryz.func177 rfl Tryz.ntmps177 rfl ?_
  have cx := Ctx.start w0
  refine wp_seq ?_
  refine wp_region_lit ?_
  refine s_alloc cx z107 rfl rfl rfl ?_; intro b2 w cx hb2 hw2
  refine wpList_nil ?_
  refine wp_seq ?_
  refine wp_region_lit ?_
  refine s_val rfl rfl (v_move rfl rfl) ?_
  refine s_val rfl rfl (v_build (qs := [(1, .string s)]) (bdK107 _) rfl rfl) ?_
  refine s_storeAll cx 0 rfl rfl rfl rfl rfl rfl sz107 rfl rfl ?_; intro w cx hwS1
  refine wpList_nil ?_
  refine wp_ret ?_
  refine ret_cell Tryz.results177 rfl (cx.at 0 rfl) Tryz.underlying107 rfl sz107 ?_
  exact ⟨cx.ext, rfl⟩
set_option maxHeartbeats 4000000 in
set_option maxRecDepth 10000 in
theorem c174 (wb w0 : World) (b : Nat) (s : List UInt8) (m : Int) (L : List (Nat × Obj)) (R : List Row) (cx0 : Cxr wb w0 ((b, .cells ([.string (bs s)] : List Value).toArray 9) :: L) R) (h0 : 0 ≤ m) (h1 : m ≤ s.length) : Ret Tryz.prog 174 [.int .i64 m, .pointer (some ⟨b, 0, none⟩)] w0 (fun v w' => v = .string (bs (s.take m.toNat)) ∧ Cxr wb w' ((b, .cells ([.string (bs (s.drop m.toNat))] : List Value).toArray 9) :: L) R) := by
  refine ret_enter Tryz.func174 rfl Tryz.ntmps174 rfl ?_
  have cx := cx0
  refine wp_seq ?_
  refine wp_region_lit ?_
  refine s_val rfl rfl (v_assign rfl rfl) ?_
  refine wpList_nil ?_
  refine wp_seq ?_
  refine wp_region_lit ?_
  refine s_val rfl rfl (v_load1 rfl rfl Tryz.underlying9 rfl (cx.cell 0 rfl rfl)) ?_
  refine s_val rfl rfl (v_move rfl rfl) ?_
  refine s_val rfl rfl (v_cutTo rfl rfl rfl Tryz.underlying9 (by omega) (by omega)) ?_
  refine s_val rfl rfl (v_assign rfl rfl) ?_
  refine wpList_nil ?_
  refine wp_seq ?_
  refine wp_region_lit ?_
  refine s_val rfl rfl (v_load1 rfl rfl Tryz.underlying9 rfl (cx.cell 0 rfl rfl)) ?_
  refine s_val rfl rfl (v_move rfl rfl) ?_
  refine s_val rfl rfl (v_cutFrom rfl rfl rfl Tryz.underlying9 (by omega) (by omega)) ?_
  refine s_store1 (v := .string (bs (s.drop m.toNat))) cx 0 rfl rfl rfl rfl rfl rfl rfl rfl sz9 ?_; intro w cx hwS2
  refine wpList_nil ?_
  refine wp_seq ?_
  refine wp_region_lit ?_
  refine s_val rfl rfl (v_move rfl rfl) ?_
  refine s_val rfl rfl (v_assign rfl rfl) ?_
  refine wpList_nil ?_
  refine wp_ret ?_
  refine ret_tmp Tryz.results174 rfl ?_
  exact ⟨rfl, cx⟩
set_option maxHeartbeats 4000000 in
set_option maxRecDepth 10000 in
theorem c108 (l : List Stp) (w0 : World) (hg : GdP l) (h0 : 0 < l.length) (ht : Tabs w0) : Fc Tryz.prog 108 [.string (bs (pathT l))] w0 (fun v w' => ∃ pv, v = .tuple #[pv, .int .i64 0] ∧ w'.ownsRow w0.heap.size 107 3 pv l.length (l.flatMap srow)) := by
  have hv := valid_path hg.2
  have hpl := pathT_len' hg
  refine ret_enter Tryz.func108 rfl Tryz.ntmps108 rfl ?_
  have cx := Ctx.start w0
  refine wp_seq ?_
  refine wp_region_lit ?_
  refine s_val rfl rfl (v_assign rfl rfl) ?_
  refine s_val rfl rfl (v_assign rfl rfl) ?_
  refine wpList_nil ?_
  refine wp_seq ?_
  refine wp_seq ?_
  refine wp_region_lit ?_
  refine s_val rfl rfl (v_move rfl rfl) ?_
  refine s_fnB cx (c92 (bs (pathT l)) _ (by rw [bs_size]; omega)) Tryz.func92 rfl rfl rfl rfl rfl rfl ?_; intro q14 w cx hw14 hp14
  obtain rfl : q14 = true := hp14.trans hv
  refine s_val rfl rfl (v_not rfl rfl) ?_
  refine wpList_nil ?_
  refine wp_cond_false (show (St _ _).eval _ = _ by rw [eval_St]; rfl) ?_
  refine wp_skip ?_
  refine wp_seq ?_
  refine wp_seq ?_
  refine wp_region_lit ?_
  refine s_val rfl rfl (v_move rfl rfl) ?_
  refine s_val rfl rfl (v_eqB (u := [46]) rfl rfl rfl) ?_
  refine wpList_nil ?_
  refine c_split rfl (fun hc17 => ?_) (fun hc17 => ?_)
  · skip
    try simp only [Bool.and_eq_true, Bool.or_eq_true, Bool.and_eq_false_iff, Bool.or_eq_false_iff, Bool.not_eq_true', Bool.not_eq_false', decide_eq_true_eq, decide_eq_false_iff_not, beq_iff_eq, beq_eq_false_iff_ne, bne_iff_ne, bne_eq_false_iff_eq, ne_eq, Classical.not_not] at hc17
    exact absurd hc17 (path_ne1 h0)
  · skip
    try simp only [Bool.and_eq_true, Bool.or_eq_true, Bool.and_eq_false_iff, Bool.or_eq_false_iff, Bool.not_eq_true', Bool.not_eq_false', decide_eq_true_eq, decide_eq_false_iff_not, beq_iff_eq, beq_eq_false_iff_ne, bne_iff_ne, bne_eq_false_iff_eq, ne_eq, Classical.not_not] at hc17
    refine wp_skip ?_
    refine wp_seq ?_
    refine wp_region_lit ?_
    refine s_val rfl rfl (v_move rfl rfl) ?_
    refine s_alloc cx z9 rfl rfl rfl ?_; intro b4 w cx hb4 hw4
    refine s_store1 (v := .string (bs (pathT l))) cx 0 rfl rfl rfl rfl rfl rfl rfl rfl sz9 ?_; intro w cx hwS5
    refine wpList_nil ?_
    refine wp_seq ?_
    refine wp_region_lit ?_
    refine s_val rfl rfl (v_fun1 rfl rfl) ?_
    refine s_val rfl rfl (v_assign rfl rfl) ?_
    refine wpList_nil ?_
    refine w_cut (fun f w1 => ∃ b4 : Nat, f 0 = .string (bs (pathT l)) ∧ f 4 = .pointer (some ⟨b4, 0, none⟩) ∧ f 5 = .func (.func 174) #[] #[.pointer (some ⟨b4, 0, none⟩)] ∧ Cxr w0 w1 [(b4, .cells ([.string (bs (rstS l 0))] : List Value).toArray 9)] []) ?_ ?_
    · skip
      refine wp_seq ?_
      refine wp_region_lit ?_
      refine s_val rfl rfl (v_load1 rfl rfl Tryz.underlying9 rfl (cx.cell 0 rfl rfl)) ?_
      refine s_val rfl rfl (v_lenB rfl rfl Tryz.underlying9) ?_
      refine s_val rfl rfl (v_cmp rfl rfl rfl rfl) ?_
      refine s_val rfl rfl (v_move rfl rfl) ?_
      refine s_gval rfl rfl rfl (by first | exact w_tt rfl | exact w_gt rfl) (fun hc => v_load1 rfl (by first | exact gve hc rfl | exact gve (and_l hc) rfl | exact gve (and_l (and_l hc)) rfl | rfl) Tryz.underlying9 rfl (cx.cell 0 rfl rfl)) ?_
      refine s_gval rfl rfl rfl (by first | exact w_tt rfl | exact w_gt rfl) (fun hc => v_cutTo rfl (by first | exact gve hc rfl | exact gve (and_l hc) rfl | exact gve (and_l (and_l hc)) rfl | rfl) rfl Tryz.underlying9 (by first | omega | (simp only [Bool.and_eq_true, Bool.or_eq_true, Bool.and_eq_false_iff, Bool.or_eq_false_iff, Bool.not_eq_true', Bool.not_eq_false', decide_eq_true_eq, decide_eq_false_iff_not, beq_iff_eq, beq_eq_false_iff_ne, bne_iff_ne, bne_eq_false_iff_eq, ne_eq, Classical.not_not] at hc; omega)) (by first | omega | (simp only [Bool.and_eq_true, Bool.or_eq_true, Bool.and_eq_false_iff, Bool.or_eq_false_iff, Bool.not_eq_true', Bool.not_eq_false', decide_eq_true_eq, decide_eq_false_iff_not, beq_iff_eq, beq_eq_false_iff_ne, bne_iff_ne, bne_eq_false_iff_eq, ne_eq, Classical.not_not] at hc; omega))) ?_
      refine s_gval rfl rfl rfl (by first | exact w_tt rfl | exact w_gt rfl) (fun hc => v_eqB (u := [46, 91]) rfl (by first | exact gve hc rfl | exact gve (and_l hc) rfl | exact gve (and_l (and_l hc)) rfl | rfl) rfl) ?_
      refine s_val rfl rfl (v_and rfl rfl rfl rfl) ?_
      refine wpList_nil ?_
      refine c_split rfl (fun hc27 => ?_) (fun hc27 => ?_)
      · skip
        try simp only [Bool.and_eq_true, Bool.or_eq_true, Bool.and_eq_false_iff, Bool.or_eq_false_iff, Bool.not_eq_true', Bool.not_eq_false', decide_eq_true_eq, decide_eq_false_iff_not, beq_iff_eq, beq_eq_false_iff_ne, bne_iff_ne, bne_eq_false_iff_eq, ne_eq, Classical.not_not] at hc27
        refine wp_region_lit ?_
        refine s_val rfl rfl (v_move rfl rfl) ?_
        refine s_callv (args := [.int .i64 1]) (cap := [.pointer (some ⟨b4, 0, none⟩)]) (c174 w0 _ b4 _ _ [] _ cx (by omega) (by first | omega | (simp only [List.length_append, List.length_cons]; omega))) Tryz.func174 rfl rfl rfl rfl rfl rfl rfl ?_; rintro v29 w ⟨hv29, cx⟩
        subst hv29
        refine wpList_nil ?_
        first
          | (have e : (pathT l).drop (Int.toNat 1) = rstS l 0 := path_T hg.2 h0 hc27.2
             rw [e] at cx
             exact ⟨_, rfl, b4, rfl, rfl, rfl, cx⟩)
          | (have e := path_F h0 (by
               rintro ⟨h1, h2⟩
               rcases hc27 with h | h
               · omega
               · exact h h2)
             rw [e] at cx
             exact ⟨_, rfl, b4, rfl, rfl, rfl, cx⟩)
      · skip
        try simp only [Bool.and_eq_true, Bool.or_eq_true, Bool.and_eq_false_iff, Bool.or_eq_false_iff, Bool.not_eq_true', Bool.not_eq_false', decide_eq_true_eq, decide_eq_false_iff_not, beq_iff_eq, beq_eq_false_iff_ne, bne_iff_ne, bne_eq_false_iff_eq, ne_eq, Classical.not_not] at hc27
        refine wp_skip ?_
        first
          | (have e : (pathT l).drop (Int.toNat 1) = rstS l 0 := path_T hg.2 h0 hc27.2
             rw [e] at cx
             exact ⟨_, rfl, b4, rfl, rfl, rfl, cx⟩)
          | (have e := path_F h0 (by
               rintro ⟨h1, h2⟩
               rcases hc27 with h | h
               · omega
               · exact h h2)
             rw [e] at cx
             exact ⟨_, rfl, b4, rfl, rfl, rfl, cx⟩)
    intro f w hJ
    obtain ⟨b4, hs0, hs4, hs5, cx⟩ := hJ
    refine wp_seq ?_
    refine wp_region_lit ?_
    refine s_val rfl rfl (v_assign rfl rfl) ?_
    refine wpList_nil ?_
    refine wp_seq ?_
    refine wp_block ?_
    refine w_loop (fun g f w1 => ∃ (i b4 : Nat) (v : Value), g + i = l.length ∧ f 0 = .string (bs (pathT l)) ∧ f 4 = .pointer (some ⟨b4, 0, none⟩) ∧ f 5 = .func (.func 174) #[] #[.pointer (some ⟨b4, 0, none⟩)] ∧ f 6 = v ∧ Cxr w0 w1 [(b4, .cells ([.string (bs (rstS l i))] : List Value).toArray 9)] [⟨107, 3, v, i, (l.take i).flatMap srow⟩]) (l.length) ?_ ?_
    · skip
      exact ⟨0, b4, _, by omega, hs0, hs4, hs5, rfl, cx.nilRow _ _⟩
    intro gk10 f w hJ
    obtain ⟨i, b4, v, hgi, hs0, hs4, hs5, hs6, cx⟩ := hJ
    obtain ⟨a6, c6, rfl⟩ := cx.rowSl
    have hg48 := hg.1
    refine wp_seq ?_
    refine wp_seq ?_
    refine wp_region_lit ?_
    refine s_val rfl rfl (v_load1 rfl hs4 Tryz.underlying9 rfl (cx.cell 0 rfl rfl)) ?_
    refine s_val rfl rfl (v_neB (u := []) rfl rfl rfl) ?_
    refine s_val rfl rfl (v_move rfl rfl) ?_
    refine s_gval rfl rfl rfl (by first | exact w_tt rfl | exact w_gt rfl) (fun hc => v_move rfl hs6) ?_
    refine s_gval rfl rfl rfl (by first | exact w_tt rfl | exact w_gt rfl) (fun hc => v_lenSlice rfl (by first | exact gve hc rfl | exact gve (and_l hc) rfl | exact gve (and_l (and_l hc)) rfl | rfl) Tryz.underlying28) ?_
    refine s_gval rfl rfl rfl (by first | exact w_tt rfl | exact w_gt rfl) (fun hc => v_cmp rfl (by first | exact gve hc rfl | exact gve (and_l hc) rfl | exact gve (and_l (and_l hc)) rfl | rfl) rfl rfl) ?_
    refine s_val rfl rfl (v_and rfl rfl rfl rfl) ?_
    refine wpList_nil ?_
    refine c_split rfl (fun hc36 => ?_) (fun hc36 => ?_)
    · skip
      try simp only [Bool.and_eq_true, Bool.or_eq_true, Bool.and_eq_false_iff, Bool.or_eq_false_iff, Bool.not_eq_true', Bool.not_eq_false', decide_eq_true_eq, decide_eq_false_iff_not, beq_iff_eq, beq_eq_false_iff_ne, bne_iff_ne, bne_eq_false_iff_eq, ne_eq, Classical.not_not] at hc36
      obtain ⟨hc36, -⟩ := hc36
      have hil : i < l.length := by
        rcases Nat.lt_or_ge i l.length with h | h
        · exact h
        · exact absurd (rstS_end l i h) hc36
      have hi48 : i ≤ 48 := by omega
      obtain ⟨x, hx, hcase⟩ := rstS_case l hg.2 i hil
      obtain ⟨c0, r, hcr⟩ : ∃ c r, rstS l i = c :: r := List.exists_cons_of_ne_nil hc36
      rw [hcr] at cx hcase
      have hrl := rstS_len l (fun s hs => (hg.2 s hs).gds) i
      have hrl2 := rstS_len l (fun s hs => (hg.2 s hs).gds) (i + 1)
      rw [hcr, List.length_cons] at hrl
      refine wp_skip ?_
      refine wp_block ?_
      refine wp_seq ?_
      refine wp_region_lit ?_
      refine s_val rfl rfl (v_move rfl hs5) ?_
      refine s_callv (args := [.int .i64 1]) (cap := [.pointer (some ⟨b4, 0, none⟩)]) (c174 w0 _ b4 _ _ [] _ cx (by omega) (by first | omega | (simp only [List.length_append, List.length_cons]; omega))) Tryz.func174 rfl rfl rfl rfl rfl rfl rfl ?_; rintro v38 w ⟨hv38, cx⟩
      subst hv38
      replace cx : Cxr w0 w [(b4, .cells ([.string (bs r)] : List Value).toArray 9)] [⟨107, 3, .slice a6 i c6, i, (l.take i).flatMap srow⟩] := cx
      refine s_val rfl rfl (v_assign rfl rfl) ?_
      refine wpList_nil ?_
      refine wp_block ?_
      refine wp_seq ?_
      refine wp_region_lit ?_
      refine s_val rfl rfl (v_move rfl rfl) ?_
      refine s_val rfl rfl (v_eqB (u := [91]) rfl rfl rfl) ?_
      refine s_val rfl rfl (v_assign rfl rfl) ?_
      refine wpList_nil ?_
      refine c_split rfl (fun hc39 => ?_) (fun hc39 => ?_)
      · skip
        try simp only [Bool.and_eq_true, Bool.or_eq_true, Bool.and_eq_false_iff, Bool.or_eq_false_iff, Bool.not_eq_true', Bool.not_eq_false', decide_eq_true_eq, decide_eq_false_iff_not, beq_iff_eq, beq_eq_false_iff_ne, bne_iff_ne, bne_eq_false_iff_eq, ne_eq, Classical.not_not] at hc39
        obtain ⟨n, hxn, hn0, hn1, hr⟩ : ∃ n, x = ⟨true, ⟨#[]⟩, n⟩ ∧ 0 ≤ n ∧ n ≤ 65536 ∧ r = itoa n ++ 93 :: rstS l (i + 1) := by
          rcases hcase with ⟨n, h1, h2, h3, h4⟩ | ⟨k, h1, h2, h3, h4⟩ | ⟨k, h1, h2, h3⟩
          · exact ⟨n, h1, h2, h3, (List.cons.inj h4).2⟩
          · exfalso
            rw [(List.cons.inj h4).1] at hc39
            exact absurd (List.cons.inj (show [(46 : UInt8)] = [91] from hc39)).1 (by decide)
          · exfalso
            rw [(List.cons.inj h3).1] at hc39
            exact absurd (List.cons.inj (show [(46 : UInt8)] = [91] from hc39)).1 (by decide)
        subst hr
        have hn6 := itoa_6 hn0 hn1
        have hn7 := itoa_pos hn0
        refine wp_seq ?_
        refine wp_region_lit ?_
        refine s_val rfl rfl (v_assign rfl rfl) ?_
        refine wpList_nil ?_
        refine wp_seq ?_
        refine wp_block ?_
        refine w_loop (fun g f w1 => ∃ m : Nat, g + m = (itoa n).length ∧ f 0 = .string (bs (pathT l)) ∧ f 4 = .pointer (some ⟨b4, 0, none⟩) ∧ f 5 = .func (.func 174) #[] #[.pointer (some ⟨b4, 0, none⟩)] ∧ f 6 = .slice a6 i c6 ∧ f 8 = .int .i64 m ∧ Cxr w0 w1 [(b4, .cells ([.string (bs (itoa n ++ 93 :: rstS l (i + 1)))] : List Value).toArray 9)] [⟨107, 3, .slice a6 i c6, i, (l.take i).flatMap srow⟩]) ((itoa n).length) ?_ ?_
        · skip
          exact ⟨0, by omega, hs0, hs4, hs5, hs6, rfl, cx⟩
        intro gk15 f w hJ
        obtain ⟨m, hgm, hs0, hs4, hs5, hs6, hs8, cx⟩ := hJ
        refine wp_seq ?_
        refine wp_seq ?_
        refine wp_region_lit ?_
        refine s_val rfl rfl (v_move rfl hs8) ?_
        refine s_val rfl rfl (v_load1 rfl hs4 Tryz.underlying9 rfl (cx.cell 0 rfl rfl)) ?_
        refine s_val rfl rfl (v_lenB rfl rfl Tryz.underlying9) ?_
        refine s_val rfl rfl (v_cmp rfl rfl rfl rfl) ?_
        refine s_val rfl rfl (v_move rfl rfl) ?_
        refine s_gval rfl rfl rfl (by first | exact w_tt rfl | exact w_gt rfl) (fun hc => v_load1 rfl hs4 Tryz.underlying9 rfl (cx.cell 0 rfl rfl)) ?_
        refine s_gval rfl rfl rfl (by first | exact w_tt rfl | exact w_gt rfl) (fun hc => v_move rfl hs8) ?_
        refine s_gval rfl rfl rfl (by first | exact w_tt rfl | exact w_gt rfl) (fun hc => v_idxB rfl (by first | exact gve hc rfl | exact gve (and_l hc) rfl | exact gve (and_l (and_l hc)) rfl | rfl) (by first | exact gve hc rfl | exact gve (and_l hc) rfl | exact gve (and_l (and_l hc)) rfl | rfl) Tryz.underlying9 (by first | omega | (simp only [Bool.and_eq_true, Bool.or_eq_true, Bool.and_eq_false_iff, Bool.or_eq_false_iff, Bool.not_eq_true', Bool.not_eq_false', decide_eq_true_eq, decide_eq_false_iff_not, beq_iff_eq, beq_eq_false_iff_ne, bne_iff_ne, bne_eq_false_iff_eq, ne_eq, Classical.not_not] at hc; omega)) (by first | omega | (simp only [Bool.and_eq_true, Bool.or_eq_true, Bool.and_eq_false_iff, Bool.or_eq_false_iff, Bool.not_eq_true', Bool.not_eq_false', decide_eq_true_eq, decide_eq_false_iff_not, beq_iff_eq, beq_eq_false_iff_ne, bne_iff_ne, bne_eq_false_iff_eq, ne_eq, Classical.not_not] at hc; omega))) ?_
        refine s_gval rfl rfl rfl (by first | exact w_tt rfl | exact w_gt rfl) (fun hc => v_cmp rfl (by first | exact gve hc rfl | exact gve (and_l hc) rfl | exact gve (and_l (and_l hc)) rfl | rfl) rfl rfl) ?_
        refine s_val rfl rfl (v_and rfl rfl rfl rfl) ?_
        refine wpList_nil ?_
        refine c_split rfl (fun hc51 => ?_) (fun hc51 => ?_)
        · skip
          try simp only [Bool.and_eq_true, Bool.or_eq_true, Bool.and_eq_false_iff, Bool.or_eq_false_iff, Bool.not_eq_true', Bool.not_eq_false', decide_eq_true_eq, decide_eq_false_iff_not, beq_iff_eq, beq_eq_false_iff_ne, bne_iff_ne, bne_eq_false_iff_eq, ne_eq, Classical.not_not] at hc51
          have hm : m < (itoa n).length := by
            rcases Nat.lt_or_ge m (itoa n).length with h | h
            · exact h
            · exfalso
              have h2 := (idx_93 hn0 (rstS l (i + 1)) m (by omega)).2 (by omega)
              rw [Int.toNat_natCast] at hc51
              omega
          refine wp_skip ?_
          refine wp_block ?_
          refine wp_region_lit ?_
          refine s_val rfl rfl (v_move rfl hs8) ?_
          refine s_val rfl rfl (v_add rfl rfl rfl (by omega) (by omega)) ?_
          refine s_val rfl rfl (v_assign rfl rfl) ?_
          refine wpList_nil ?_
          exact ⟨gk15 - 1, _, by omega, rfl, m + 1, by omega, hs0, hs4, hs5, hs6, rfl, cx⟩
        · skip
          try simp only [Bool.and_eq_true, Bool.or_eq_true, Bool.and_eq_false_iff, Bool.or_eq_false_iff, Bool.not_eq_true', Bool.not_eq_false', decide_eq_true_eq, decide_eq_false_iff_not, beq_iff_eq, beq_eq_false_iff_ne, bne_iff_ne, bne_eq_false_iff_eq, ne_eq, Classical.not_not] at hc51
          have hm : m = (itoa n).length := by
            refine (idx_93 hn0 (rstS l (i + 1)) m (by omega)).1 ?_
            simp only [List.length_append, List.length_cons, Int.toNat_natCast] at hc51
            omega
          refine wp_exit ?_
          refine wp_seq ?_
          refine wp_seq ?_
          refine wp_region_lit ?_
          refine s_val rfl rfl (v_move rfl hs8) ?_
          refine s_val rfl rfl (v_cmp rfl rfl rfl rfl) ?_
          refine s_val rfl rfl (v_move rfl rfl) ?_
          refine s_gval rfl rfl rfl (by first | exact w_ff rfl | exact w_gf rfl) (fun hc => v_move rfl hs8) ?_
          refine s_gval rfl rfl rfl (by first | exact w_ff rfl | exact w_gf rfl) (fun hc => v_cmp rfl (by first | exact gve hc rfl | exact gve (and_l hc) rfl | exact gve (and_l (and_l hc)) rfl | rfl) rfl rfl) ?_
          refine s_val rfl rfl (v_or rfl rfl rfl rfl) ?_
          refine s_val rfl rfl (v_move rfl rfl) ?_
          refine s_gval rfl rfl rfl (by first | exact w_ff rfl | exact w_gf rfl) (fun hc => v_move rfl hs8) ?_
          refine s_gval rfl rfl rfl (by first | exact w_ff rfl | exact w_gf rfl) (fun hc => v_load1 rfl hs4 Tryz.underlying9 rfl (cx.cell 0 rfl rfl)) ?_
          refine s_gval rfl rfl rfl (by first | exact w_ff rfl | exact w_gf rfl) (fun hc => v_lenB rfl (by first | exact gve hc rfl | exact gve (and_l hc) rfl | exact gve (and_l (and_l hc)) rfl | rfl) Tryz.underlying9) ?_
          refine s_gval rfl rfl rfl (by first | exact w_ff rfl | exact w_gf rfl) (fun hc => v_cmp rfl (by first | exact gve hc rfl | exact gve (and_l hc) rfl | exact gve (and_l (and_l hc)) rfl | rfl) (by first | exact gve hc rfl | exact gve (and_l hc) rfl | exact gve (and_l (and_l hc)) rfl | rfl) rfl) ?_
          refine s_val rfl rfl (v_or rfl rfl rfl rfl) ?_
          refine wpList_nil ?_
          refine c_split rfl (fun hc65 => ?_) (fun hc65 => ?_)
          · skip
            try simp only [Bool.and_eq_true, Bool.or_eq_true, Bool.and_eq_false_iff, Bool.or_eq_false_iff, Bool.not_eq_true', Bool.not_eq_false', decide_eq_true_eq, decide_eq_false_iff_not, beq_iff_eq, beq_eq_false_iff_ne, bne_iff_ne, bne_eq_false_iff_eq, ne_eq, Classical.not_not] at hc65
            exfalso
            simp only [List.length_append, List.length_cons] at hc65
            omega
          · skip
            try simp only [Bool.and_eq_true, Bool.or_eq_true, Bool.and_eq_false_iff, Bool.or_eq_false_iff, Bool.not_eq_true', Bool.not_eq_false', decide_eq_true_eq, decide_eq_false_iff_not, beq_iff_eq, beq_eq_false_iff_ne, bne_iff_ne, bne_eq_false_iff_eq, ne_eq, Classical.not_not] at hc65
            refine wp_skip ?_
            refine wp_seq ?_
            refine wp_region_lit ?_
            refine s_val rfl rfl (v_move rfl hs5) ?_
            refine s_val rfl rfl (v_move rfl hs8) ?_
            refine s_callv (args := [.int .i64 m]) (cap := [.pointer (some ⟨b4, 0, none⟩)]) (c174 w0 _ b4 _ _ [] _ cx (by omega) (by first | omega | (simp only [List.length_append, List.length_cons]; omega))) Tryz.func174 rfl rfl rfl rfl rfl rfl rfl ?_; rintro v69 w ⟨hv69, cx⟩
            rw [(cut_at _ _ _ (by omega)).1] at hv69
            subst hv69
            rw [(cut_at _ _ _ (by omega)).2] at cx
            refine s_fn cx (c106 n _ hn0 (by omega)) Tryz.func106 rfl rfl rfl rfl rfl rfl ?_; intro q70 w cx hw70 hp70
            subst hp70
            refine s_val rfl rfl (v_move rfl rfl) ?_
            refine s_val rfl rfl (v_extract rfl rfl rfl) ?_
            refine s_val rfl rfl (v_extract rfl rfl rfl) ?_
            refine s_val rfl rfl (v_assign rfl rfl) ?_
            refine s_val rfl rfl (v_assign rfl rfl) ?_
            refine wpList_nil ?_
            refine wp_seq ?_
            refine wp_seq ?_
            refine wp_region_lit ?_
            refine s_val rfl rfl (v_move rfl rfl) ?_
            refine s_val rfl rfl (v_nilErrN Tryz.underlying184 rfl rfl rfl) ?_
            refine wpList_nil ?_
            refine wp_cond_false (show (St _ _).eval _ = _ by rw [eval_St]; rfl) ?_
            refine wp_skip ?_
            refine wp_seq ?_
            refine wp_region_lit ?_
            refine s_val rfl rfl (v_move rfl hs5) ?_
            refine s_callv (args := [.int .i64 1]) (cap := [.pointer (some ⟨b4, 0, none⟩)]) (c174 w0 _ b4 _ _ [] _ cx (by omega) (by first | omega | (simp only [List.length_append, List.length_cons]; omega))) Tryz.func174 rfl rfl rfl rfl rfl rfl rfl ?_; rintro v76 w ⟨hv76, cx⟩
            subst hv76
            refine wpList_nil ?_
            refine wp_region_lit ?_
            refine s_val rfl rfl (v_move rfl hs6) ?_
            refine s_val rfl rfl (v_move rfl rfl) ?_
            refine s_fn cx (c175 n _) Tryz.func175 rfl rfl rfl rfl rfl rfl ?_; intro q79 w cx hw79 hp79
            subst hp79
            refine s_bsl1 cx Tryz.underlying28 sz107 z107 rfl rfl rfl rfl rfl rfl rfl rfl ?_; intro b80 w cx hb80 hw80
            refine s_append cx ei107 Tryz.underlying28 rfl rfl rfl rfl rfl (cx.row 0 rfl) rfl rfl (by omega) ?_; intro v81 w cx hgr81
            replace cx := cx.drop 1
            refine s_val rfl rfl (v_assign rfl rfl) ?_
            refine wpList_nil ?_
            exact ⟨gk10 - 1, _, by omega, rfl, i + 1, b4, _, by omega, hs0, hs4, hs5, rfl, cx.row_eq rfl (by rw [← take_srow hx, hxn]; rfl)⟩
      · skip
        try simp only [Bool.and_eq_true, Bool.or_eq_true, Bool.and_eq_false_iff, Bool.or_eq_false_iff, Bool.not_eq_true', Bool.not_eq_false', decide_eq_true_eq, decide_eq_false_iff_not, beq_iff_eq, beq_eq_false_iff_ne, bne_iff_ne, bne_eq_false_iff_eq, ne_eq, Classical.not_not] at hc39
        have h46 : c0 = 46 ∧ ((∃ k, x = ⟨false, k, 0⟩ ∧ k.size ≤ 1024 ∧ isNm k ∧ r = k.data.toList ++ rstS l (i + 1)) ∨ (∃ k, x = ⟨false, k, 0⟩ ∧ k.size ≤ 1024 ∧ r = 34 :: (qtd k.data.toList ++ 34 :: rstS l (i + 1)))) := by
          rcases hcase with ⟨n, h1, h2, h3, h4⟩ | ⟨k, h1, h2, h3, h4⟩ | ⟨k, h1, h2, h3⟩
          · exfalso
            rw [(List.cons.inj h4).1] at hc39
            exact hc39 rfl
          · exact ⟨(List.cons.inj h4).1, .inl ⟨k, h1, h2, h3, (List.cons.inj h4).2⟩⟩
          · exact ⟨(List.cons.inj h3).1, .inr ⟨k, h1, h2, (List.cons.inj h3).2⟩⟩
        obtain ⟨h46, hcB⟩ := h46
        have hrp : 0 < r.length := by
          rcases hcB with ⟨k, h1, h2, h3, h4⟩ | ⟨k, h1, h2, h3⟩
          · rw [h4, List.length_append]
            have := List.length_pos_iff.2 (isNm_ne h3)
            omega
          · rw [h3]; simp
        refine wp_seq ?_
        refine wp_region_lit ?_
        refine s_val rfl rfl (v_move rfl rfl) ?_
        refine s_val rfl rfl (v_eqB (u := [46]) rfl rfl rfl) ?_
        refine s_val rfl rfl (v_move rfl rfl) ?_
        refine s_gval rfl rfl rfl (by first | exact w_tt rfl | exact w_gt rfl) (fun hc => v_load1 rfl hs4 Tryz.underlying9 rfl (cx.cell 0 rfl rfl)) ?_
        refine s_gval rfl rfl rfl (by first | exact w_tt rfl | exact w_gt rfl) (fun hc => v_neB (u := []) rfl (by first | exact gve hc rfl | exact gve (and_l hc) rfl | exact gve (and_l (and_l hc)) rfl | rfl) rfl) ?_
        refine s_val rfl rfl (v_and rfl rfl rfl rfl) ?_
        refine s_val rfl rfl (v_move rfl rfl) ?_
        refine s_gval rfl rfl rfl (by first | exact w_tt rfl | exact w_gt rfl) (fun hc => v_load1 rfl hs4 Tryz.underlying9 rfl (cx.cell 0 rfl rfl)) ?_
        refine s_gval rfl rfl rfl (by first | exact w_tt rfl | exact w_gt rfl) (fun hc => v_idxB rfl (by first | exact gve hc rfl | exact gve (and_l hc) rfl | exact gve (and_l (and_l hc)) rfl | rfl) rfl Tryz.underlying9 (by first | omega | (simp only [Bool.and_eq_true, Bool.or_eq_true, Bool.and_eq_false_iff, Bool.or_eq_false_iff, Bool.not_eq_true', Bool.not_eq_false', decide_eq_true_eq, decide_eq_false_iff_not, beq_iff_eq, beq_eq_false_iff_ne, bne_iff_ne, bne_eq_false_iff_eq, ne_eq, Classical.not_not] at hc; omega)) (by first | omega | (simp only [Bool.and_eq_true, Bool.or_eq_true, Bool.and_eq_false_iff, Bool.or_eq_false_iff, Bool.not_eq_true', Bool.not_eq_false', decide_eq_true_eq, decide_eq_false_iff_not, beq_iff_eq, beq_eq_false_iff_ne, bne_iff_ne, bne_eq_false_iff_eq, ne_eq, Classical.not_not] at hc; omega))) ?_
        refine s_gval rfl rfl rfl (by first | exact w_tt rfl | exact w_gt rfl) (fun hc => v_cmp rfl (by first | exact gve hc rfl | exact gve (and_l hc) rfl | exact gve (and_l (and_l hc)) rfl | rfl) rfl rfl) ?_
        refine s_val rfl rfl (v_and rfl rfl rfl rfl) ?_
        refine s_val rfl rfl (v_assign rfl rfl) ?_
        refine wpList_nil ?_
        refine c_split rfl (fun hc82 => ?_) (fun hc82 => ?_)
        · skip
          try simp only [Bool.and_eq_true, Bool.or_eq_true, Bool.and_eq_false_iff, Bool.or_eq_false_iff, Bool.not_eq_true', Bool.not_eq_false', decide_eq_true_eq, decide_eq_false_iff_not, beq_iff_eq, beq_eq_false_iff_ne, bne_iff_ne, bne_eq_false_iff_eq, ne_eq, Classical.not_not] at hc82
          obtain ⟨k, hxk, hk1, hr⟩ : ∃ k, x = ⟨false, k, 0⟩ ∧ k.size ≤ 1024 ∧ r = 34 :: (qtd k.data.toList ++ 34 :: rstS l (i + 1)) := by
            rcases hcB with ⟨k, h1, h2, h3, h4⟩ | ⟨k, h1, h2, h3⟩
            · exfalso
              refine name_34 k (rstS l (i + 1)) h3 ?_
              rw [← h4]
              have h5 := hc82.2
              simp only [Int.toNat_zero] at h5
              omega
            · exact ⟨k, h1, h2, h3⟩
          have hkl : k.data.toList.length = k.size := by simp
          have hql := qtd_len k.data.toList
          have hrlen := congrArg List.length hr
          simp only [List.length_append, List.length_cons] at hrlen
          refine wp_seq ?_
          refine wp_region_lit ?_
          refine s_val rfl rfl (v_load1 rfl hs4 Tryz.underlying9 rfl (cx.cell 0 rfl rfl)) ?_
          refine s_fn cx (c176 k.data.toList (rstS l (i + 1)) _ hr (by rw [hkl]; omega) (by omega) _) Tryz.func176 rfl rfl rfl rfl rfl rfl ?_; intro q96 w cx hw96 hp96
          subst hp96
          refine s_val rfl rfl (v_move rfl rfl) ?_
          refine s_val rfl rfl (v_extract rfl rfl rfl) ?_
          refine s_val rfl rfl (v_extract rfl rfl rfl) ?_
          refine s_val rfl rfl (v_assign rfl rfl) ?_
          refine s_val rfl rfl (v_assign rfl rfl) ?_
          refine wpList_nil ?_
          refine wp_seq ?_
          refine wp_seq ?_
          refine wp_region_lit ?_
          refine s_val rfl rfl (v_move rfl rfl) ?_
          refine s_val rfl rfl (v_cmp rfl rfl rfl rfl) ?_
          refine wpList_nil ?_
          refine c_split rfl (fun hc100 => ?_) (fun hc100 => ?_)
          · skip
            try simp only [Bool.and_eq_true, Bool.or_eq_true, Bool.and_eq_false_iff, Bool.or_eq_false_iff, Bool.not_eq_true', Bool.not_eq_false', decide_eq_true_eq, decide_eq_false_iff_not, beq_iff_eq, beq_eq_false_iff_ne, bne_iff_ne, bne_eq_false_iff_eq, ne_eq, Classical.not_not] at hc100
            exfalso
            omega
          · skip
            try simp only [Bool.and_eq_true, Bool.or_eq_true, Bool.and_eq_false_iff, Bool.or_eq_false_iff, Bool.not_eq_true', Bool.not_eq_false', decide_eq_true_eq, decide_eq_false_iff_not, beq_iff_eq, beq_eq_false_iff_ne, bne_iff_ne, bne_eq_false_iff_eq, ne_eq, Classical.not_not] at hc100
            refine wp_skip ?_
            refine wp_seq ?_
            refine wp_region_lit ?_
            refine s_val rfl rfl (v_move rfl hs5) ?_
            refine s_val rfl rfl (v_move rfl rfl) ?_
            refine s_callv (args := [.int .i64 _]) (cap := [.pointer (some ⟨b4, 0, none⟩)]) (c174 w0 _ b4 _ _ [] _ cx (by omega) (by first | omega | (simp only [List.length_append, List.length_cons]; omega))) Tryz.func174 rfl rfl rfl rfl rfl rfl rfl ?_; rintro v103 w ⟨hv103, cx⟩
            subst hv103
            rw [hr, cut_q] at cx
            refine wpList_nil ?_
            refine wp_region_lit ?_
            refine s_val rfl rfl (v_move rfl hs6) ?_
            refine s_val rfl rfl (v_move rfl rfl) ?_
            refine s_fn cx (c177 _ _) Tryz.func177 rfl rfl rfl rfl rfl rfl ?_; intro q106 w cx hw106 hp106
            subst hp106
            refine s_bsl1 cx Tryz.underlying28 sz107 z107 rfl rfl rfl rfl rfl rfl rfl rfl ?_; intro b107 w cx hb107 hw107
            refine s_append cx ei107 Tryz.underlying28 rfl rfl rfl rfl rfl (cx.row 0 rfl) rfl rfl (by omega) ?_; intro v108 w cx hgr108
            replace cx := cx.drop 1
            refine s_val rfl rfl (v_assign rfl rfl) ?_
            refine wpList_nil ?_
            exact ⟨gk10 - 1, _, by omega, rfl, i + 1, b4, _, by omega, hs0, hs4, hs5, rfl, cx.row_eq rfl (by rw [← take_srow hx, hxk, bs_of]; rfl)⟩
        · skip
          try simp only [Bool.and_eq_true, Bool.or_eq_true, Bool.and_eq_false_iff, Bool.or_eq_false_iff, Bool.not_eq_true', Bool.not_eq_false', decide_eq_true_eq, decide_eq_false_iff_not, beq_iff_eq, beq_eq_false_iff_ne, bne_iff_ne, bne_eq_false_iff_eq, ne_eq, Classical.not_not] at hc82
          obtain ⟨k, hxk, hk1, hkn, hr⟩ : ∃ k, x = ⟨false, k, 0⟩ ∧ k.size ≤ 1024 ∧ isNm k ∧ r = k.data.toList ++ rstS l (i + 1) := by
            rcases hcB with ⟨k, h1, h2, h3, h4⟩ | ⟨k, h1, h2, h3⟩
            · exact ⟨k, h1, h2, h3, h4⟩
            · exfalso
              rcases hc82 with (h | h) | h
              · exact h (by rw [h46]; rfl)
              · rw [h] at hrp
                exact absurd hrp (by decide)
              · rw [h3] at h
                exact h rfl
          have hkl : k.data.toList.length = k.size := by simp
          have hk0 := hkn.1
          have hfol : folN (bs r) = k.size := by rw [hr]; exact fol_name k _ hkn (rstS_head l (i + 1))
          have hrlen := congrArg List.length hr
          simp only [List.length_append] at hrlen
          refine wp_seq ?_
          refine wp_region_lit ?_
          refine s_val rfl rfl (v_move rfl rfl) ?_
          refine s_val rfl rfl (v_eqB (u := [46]) rfl rfl rfl) ?_
          refine s_val rfl rfl (v_move rfl rfl) ?_
          refine s_gval rfl rfl rfl (by first | exact w_tt rfl | exact w_gt rfl) (fun hc => v_load1 rfl hs4 Tryz.underlying9 rfl (cx.cell 0 rfl rfl)) ?_
          refine s_gfn cx rfl rfl rfl (by first | exact w_tt rfl | exact w_gt rfl) (fun hc => c93 (bs r) _ (by rw [bs_size]; omega)) Tryz.func93 rfl rfl rfl (fun hc => (cons_eq (by first | exact gve hc rfl | exact gve (and_l hc) rfl | exact gve (and_l (and_l hc)) rfl | rfl) rfl)) ?_; intro q114 w cx hw114 hp114
          refine s_gval rfl rfl rfl (by first | exact w_tt rfl | exact w_gt rfl) (fun hc => v_cmp rfl ((gve hc rfl).trans (hp114 hc)) rfl rfl) ?_
          refine s_val rfl rfl (v_and rfl rfl rfl rfl) ?_
          refine s_val rfl rfl (v_assign rfl rfl) ?_
          refine wpList_nil ?_
          refine c_split rfl (fun hc109 => ?_) (fun hc109 => ?_)
          · skip
            try simp only [Bool.and_eq_true, Bool.or_eq_true, Bool.and_eq_false_iff, Bool.or_eq_false_iff, Bool.not_eq_true', Bool.not_eq_false', decide_eq_true_eq, decide_eq_false_iff_not, beq_iff_eq, beq_eq_false_iff_ne, bne_iff_ne, bne_eq_false_iff_eq, ne_eq, Classical.not_not] at hc109
            refine wp_region_lit ?_
            refine s_val rfl rfl (v_move rfl hs6) ?_
            refine s_val rfl rfl (v_move rfl hs5) ?_
            refine s_val rfl rfl (v_load1 rfl hs4 Tryz.underlying9 rfl (cx.cell 0 rfl rfl)) ?_
            refine s_fn cx (c93 (bs r) _ (by rw [bs_size]; omega)) Tryz.func93 rfl rfl rfl rfl rfl rfl ?_; intro q120 w cx hw120 hp120
            subst hp120
            refine s_callv (args := [.int .i64 _]) (cap := [.pointer (some ⟨b4, 0, none⟩)]) (c174 w0 _ b4 _ _ [] _ cx (by omega) (by first | omega | (simp only [List.length_append, List.length_cons]; omega))) Tryz.func174 rfl rfl rfl rfl rfl rfl rfl ?_; rintro v121 w ⟨hv121, cx⟩
            rw [hfol] at hv121 cx
            rw [hr, (cut_at _ _ _ (by omega)).1] at hv121
            subst hv121
            rw [hr, (cut_at _ _ _ (by omega)).2] at cx
            refine s_fn cx (c177 _ _) Tryz.func177 rfl rfl rfl rfl rfl rfl ?_; intro q122 w cx hw122 hp122
            subst hp122
            refine s_bsl1 cx Tryz.underlying28 sz107 z107 rfl rfl rfl rfl rfl rfl rfl rfl ?_; intro b123 w cx hb123 hw123
            refine s_append cx ei107 Tryz.underlying28 rfl rfl rfl rfl rfl (cx.row 0 rfl) rfl rfl (by omega) ?_; intro v124 w cx hgr124
            replace cx := cx.drop 1
            refine s_val rfl rfl (v_assign rfl rfl) ?_
            refine wpList_nil ?_
            exact ⟨gk10 - 1, _, by omega, rfl, i + 1, b4, _, by omega, hs0, hs4, hs5, rfl, cx.row_eq rfl (by rw [← take_srow hx, hxk, bs_of]; rfl)⟩
          · skip
            try simp only [Bool.and_eq_true, Bool.or_eq_true, Bool.and_eq_false_iff, Bool.or_eq_false_iff, Bool.not_eq_true', Bool.not_eq_false', decide_eq_true_eq, decide_eq_false_iff_not, beq_iff_eq, beq_eq_false_iff_ne, bne_iff_ne, bne_eq_false_iff_eq, ne_eq, Classical.not_not] at hc109
            exfalso
            rcases hc109 with h | h
            · exact h (by rw [h46]; rfl)
            · rw [hfol] at h
              omega
    · skip
      try simp only [Bool.and_eq_true, Bool.or_eq_true, Bool.and_eq_false_iff, Bool.or_eq_false_iff, Bool.not_eq_true', Bool.not_eq_false', decide_eq_true_eq, decide_eq_false_iff_not, beq_iff_eq, beq_eq_false_iff_ne, bne_iff_ne, bne_eq_false_iff_eq, ne_eq, Classical.not_not] at hc36
      have hi : i = l.length := by
        rcases Nat.lt_or_ge i l.length with h | h
        · exfalso
          rcases hc36 with h2 | h2
          · exact rstS_ne l i h h2
          · omega
        · omega
      subst hi
      rw [List.take_length] at cx
      refine wp_exit ?_
      refine wp_seq ?_
      refine wp_seq ?_
      refine wp_region_lit ?_
      refine s_val rfl rfl (v_move rfl hs6) ?_
      refine s_val rfl rfl (v_lenSlice rfl rfl Tryz.underlying28) ?_
      refine s_val rfl rfl (v_cmp rfl rfl rfl rfl) ?_
      refine s_val rfl rfl (v_move rfl rfl) ?_
      refine s_gval rfl rfl rfl (by first | exact w_ff rfl | exact w_gf rfl) (fun hc => v_move rfl hs6) ?_
      refine s_gfnB cx rfl rfl rfl (by first | exact w_ff rfl | exact w_gf rfl) (fun hc => c40 _ l _ (pth_row cx (by omega) h0) (by omega)) Tryz.func40 rfl rfl rfl (fun hc => (cons_eq (by first | exact gve hc rfl | exact gve (and_l hc) rfl | exact gve (and_l (and_l hc)) rfl | rfl) rfl)) ?_; intro q130 w cx hw130 hp130
      refine s_gval rfl rfl rfl (by first | exact w_ff rfl | exact w_gf rfl) (fun hc => v_not rfl (by first | exact gve hc rfl | exact gve (and_l hc) rfl | exact gve (and_l (and_l hc)) rfl | rfl)) ?_
      refine s_val rfl rfl (v_or rfl rfl rfl rfl) ?_
      refine s_val rfl rfl (v_move rfl rfl) ?_
      refine s_gval rfl rfl rfl (by first | exact w_ff rfl | exact w_gf rfl) (fun hc => v_move rfl hs6) ?_
      refine s_gfn cx rfl rfl rfl (by first | exact w_ff rfl | exact w_gf rfl) (fun hc => c41 _ l _ (pth_row cx (by omega) h0) (fun s hs => (hg.2 s hs).gds) hg.1 (ht.up cx.ext)) Tryz.func41 rfl rfl rfl (fun hc => (cons_eq (by first | exact gve hc rfl | exact gve (and_l hc) rfl | exact gve (and_l (and_l hc)) rfl | rfl) rfl)) ?_; intro q135 w cx hw135 hp135
      refine s_gval rfl rfl rfl (by first | exact w_ff rfl | exact w_gf rfl) (fun hc => v_move rfl hs0) ?_
      refine s_gval rfl rfl rfl (by first | exact w_ff rfl | exact w_gf rfl) (fun hc => v_neB rfl ((gve hc rfl).trans (hp135 hc)) (gve hc rfl)) ?_
      refine s_val rfl rfl (v_or rfl rfl rfl rfl) ?_
      refine wpList_nil ?_
      refine c_split rfl (fun hc138 => ?_) (fun hc138 => ?_)
      · skip
        try simp only [Bool.and_eq_true, Bool.or_eq_true, Bool.and_eq_false_iff, Bool.or_eq_false_iff, Bool.not_eq_true', Bool.not_eq_false', decide_eq_true_eq, decide_eq_false_iff_not, beq_iff_eq, beq_eq_false_iff_ne, bne_iff_ne, bne_eq_false_iff_eq, ne_eq, Classical.not_not] at hc138
        exfalso
        rcases hc138 with (h | h) | h
        · omega
        · have h2 := (hp130 (by rw [Bool.not_eq_true', beq_eq_false_iff_ne]; omega)).2 hg
          rw [h] at h2
          cases h2
        · exact h trivial
      · skip
        try simp only [Bool.and_eq_true, Bool.or_eq_true, Bool.and_eq_false_iff, Bool.or_eq_false_iff, Bool.not_eq_true', Bool.not_eq_false', decide_eq_true_eq, decide_eq_false_iff_not, beq_iff_eq, beq_eq_false_iff_ne, bne_iff_ne, bne_eq_false_iff_eq, ne_eq, Classical.not_not] at hc138
        refine wp_skip ?_
        refine wp_seq ?_
        refine wp_region_lit ?_
        refine s_val rfl rfl (v_move rfl hs6) ?_
        refine s_val rfl rfl (v_assign rfl rfl) ?_
        refine s_val rfl rfl (v_assign rfl rfl) ?_
        refine wpList_nil ?_
        refine wp_ret ?_
        refine ret_tmp2 Tryz.results108 rfl rfl ?_
        exact ⟨cx.ext, _, rfl, cx.rows _ (List.mem_cons_self ..)⟩
end Go.Proofs.YthiafbkolhnadaaGreatDoor
end
section
set_option linter.unusedVariables false
set_option linter.unusedSimpArgs false
namespace Go.Dk
open Go Go.RowKit Go.Lib
theorem index1_hit : ∀ (a z : List UInt8) (c : UInt8), (∀ x ∈ a, x ≠ c) → Lib.index (a ++ c :: z) [c] = (a.length : Int)
  | [], z, c, _ => by rw [List.nil_append, Lib.index]; simp [List.isPrefixOf]
  | b :: a, z, c, h => by
    have hp : ([c] : List UInt8).isPrefixOf (b :: (a ++ c :: z)) = false := by simp [List.isPrefixOf, Ne.symm (h b (by simp))]
    rw [List.cons_append, Lib.index, hp, index1_hit a z c fun x hx => h x (by simp [hx])]
    have h2 : ((a.length : Int) == -1) = false := by rw [beq_eq_false_iff_ne]; omega
    simp [h2]
theorem index1_miss : ∀ (a : List UInt8) (c : UInt8), (∀ x ∈ a, x ≠ c) → Lib.index a [c] = -1
  | [], c, _ => by simp [Lib.index]
  | b :: a, c, h => by
    have hp : ([c] : List UInt8).isPrefixOf (b :: a) = false := by simp [List.isPrefixOf, Ne.symm (h b (by simp))]
    rw [Lib.index, hp, index1_miss a c fun x hx => h x (by simp [hx])]
    simp
theorem cut1_hit (a z : List UInt8) (c : UInt8) (h : ∀ x ∈ a, x ≠ c) : Lib.cut (a ++ c :: z) [c] = (a, z, true) := by
  unfold Lib.cut
  rw [index1_hit a z c h, if_pos (by omega)]
  simp [List.drop_append]
theorem cut1_miss (a : List UInt8) (c : UInt8) (h : ∀ x ∈ a, x ≠ c) : Lib.cut a [c] = (a, [], false) := by
  unfold Lib.cut
  rw [index1_miss a c h, if_neg (by decide)]
theorem itoa_32 {n : Int} (h : 0 ≤ n) : ∀ x ∈ itoa n, x ≠ 32 := by
  intro x hx e
  have := itoa_dgc h x hx
  subst e
  unfold dgc at this
  revert this; decide
theorem itoa_10 {n : Int} (h : 0 ≤ n) : ∀ x ∈ itoa n, x ≠ 10 := by
  intro x hx e
  have := itoa_dgc h x hx
  subst e
  unfold dgc at this
  revert this; decide
def joinL (ls : List (List UInt8)) : List UInt8 := ls.flatMap fun l => l ++ [10]
theorem joinL_cons (l : List UInt8) (ls : List (List UInt8)) : joinL (l :: ls) = l ++ 10 :: joinL ls := by simp [joinL]
theorem joinL_count : ∀ (ls : List (List UInt8)), (∀ l ∈ ls, ∀ x ∈ l, x ≠ 10) → (joinL ls).count 10 = ls.length
  | [], _ => rfl
  | l :: ls, h => by
    have h1 : l.count 10 = 0 := List.count_eq_zero.2 fun hm => h l (by simp) 10 hm rfl
    rw [joinL_cons, List.count_append, h1, List.count_cons_self, joinL_count ls fun l hl => h l (by simp [hl]), List.length_cons]
    omega
theorem countB_lines (ls : List (List UInt8)) (h : ∀ l ∈ ls, ∀ x ∈ l, x ≠ 10) : Lib.countB (bs (joinL ls)) (bs [10]) = ls.length := by
  have : Lib.countB (bs (joinL ls)) (bs [10]) = Lib.count (joinL ls) [10] := rfl
  rw [this, Lib.count_one, joinL_count ls h]
theorem splitB_lines : ∀ (ls : List (List UInt8)), (∀ l ∈ ls, ∀ x ∈ l, x ≠ 10) → Lib.splitB (bs [10]) 0 ls.length (bs (joinL ls)) = ls.map bs ++ [bs []]
  | [], _ => rfl
  | l :: ls, h => by
    have h1 : Lib.indexB (bs (joinL (l :: ls))) (bs [10]) = (l.length : Int) := by
      show Lib.index (joinL (l :: ls)) [10] = _
      rw [joinL_cons]
      exact index1_hit l _ 10 (h l (by simp))
    have e1 : (bs (joinL (l :: ls))).extract 0 (l.length + 0) = bs l := by
      rw [bs_extract, joinL_cons]
      simp
    have e2 : (bs (joinL (l :: ls))).extract (l.length + (bs [10]).size) (bs (joinL (l :: ls))).size = bs (joinL ls) := by
      rw [bs_extract, bs_size, bs_size, List.take_length, joinL_cons]
      congr 1
      exact drop_at _ _ _ 1 rfl
    rw [List.length_cons, Lib.splitB_hit _ _ _ _ _ h1, e1, e2, splitB_lines ls fun l hl => h l (by simp [hl])]
    rfl
noncomputable def linesX (x : Idx) : List (List UInt8) := hdrT x :: (x.cols.map colT ++ x.ents.map entT)
theorem joinL_append (a b : List (List UInt8)) : joinL (a ++ b) = joinL a ++ joinL b := by simp [joinL]
theorem joinL_map {α : Type} (f : α → List UInt8) (l : List α) : joinL (l.map f) = l.flatMap fun a => f a ++ [10] := by simp [joinL, List.flatMap_map]
theorem textX_lines (x : Idx) : textX x = joinL (linesX x) := by
  unfold linesX
  rw [joinL_cons, joinL_append, joinL_map, joinL_map]
  unfold textX textE textC
  rw [List.take_length, List.take_length]
  simp only [List.append_assoc, List.cons_append, List.nil_append]
theorem nameT_10 (f : Int) : ∀ x ∈ nameT f, x ≠ 10 := by
  unfold nameT
  split <;> decide
theorem linesX_10 {x : Idx} (h : chkX x = 0) : ∀ l ∈ linesX x, ∀ c ∈ l, c ≠ 10 := by
  obtain ⟨_, s1, s2, d1, d2⟩ := chk_hdr h
  intro l hl c hc
  unfold linesX at hl
  simp only [List.mem_cons, List.mem_append, List.mem_map] at hl
  rcases hl with rfl | ⟨k, hk, rfl⟩ | ⟨e, he, rfl⟩
  · unfold hdrT at hc
    simp only [List.mem_append] at hc
    rcases hc with ((((hc | hc) | hc) | hc) | hc) | hc
    · revert c; decide
    · exact nameT_10 _ c hc
    · revert c; decide
    · exact itoa_10 s1 c hc
    · revert c; decide
    · exact itoa_10 (by omega) c hc
  · unfold colT at hc
    have hc2 := List.mem_append.1 hc
    clear hc
    rcases hc2 with hc | hc
    · revert c; decide
    · exact cqt_10 k c hc
  · obtain ⟨r1, r2, r3⟩ := chk_rng h e he
    unfold entT at hc
    simp only [List.mem_append] at hc
    rcases hc with (((hc | hc) | hc) | hc) | hc
    · exact itoa_10 r1 c hc
    · revert c; decide
    · exact itoa_10 (by omega) c hc
    · revert c; decide
    · exact path_10 (chk_good h e he).1.2 c hc
theorem linesX_len (x : Idx) : (linesX x).length = 1 + x.cols.length + x.ents.length := by
  unfold linesX
  simp only [List.length_cons, List.length_append, List.length_map]
  omega
theorem linesX_col {x : Idx} {i : Nat} (h : i < x.cols.length) : ∃ c, x.cols[i]? = some c ∧ (linesX x)[i + 1]? = some (colT c) := by
  refine ⟨x.cols[i], List.getElem?_eq_getElem h, ?_⟩
  unfold linesX
  rw [List.getElem?_cons_succ, List.getElem?_append_left (by simpa using h), List.getElem?_map, List.getElem?_eq_getElem h]
  rfl
theorem linesX_ent {x : Idx} {j : Nat} (h : j < x.ents.length) : ∃ e, x.ents[j]? = some e ∧ (linesX x)[x.cols.length + j + 1]? = some (entT e) := by
  refine ⟨x.ents[j], List.getElem?_eq_getElem h, ?_⟩
  unfold linesX
  rw [List.getElem?_cons_succ, List.getElem?_append_right (by simp), List.getElem?_map, List.length_map, show x.cols.length + j - x.cols.length = j by omega, List.getElem?_eq_getElem h]
  rfl
theorem pre_col (c : ByteArray) : Lib.hasPrefix (colT c) [99, 111, 108, 117, 109, 110, 32] = true ∧ Lib.trimPrefix (colT c) [99, 111, 108, 117, 109, 110, 32] = cqt c := by
  have h : Lib.hasPrefix (colT c) [99, 111, 108, 117, 109, 110, 32] = true := by
    unfold colT Lib.hasPrefix
    simp [List.isPrefixOf]
  refine ⟨h, ?_⟩
  unfold Lib.trimPrefix
  rw [if_pos h]
  rfl
theorem pre_ent {e : Ent} (h : 0 ≤ e.fr) : Lib.hasPrefix (entT e) [99, 111, 108, 117, 109, 110, 32] = false ∧ Lib.trimPrefix (entT e) [99, 111, 108, 117, 109, 110, 32] = entT e := by
  have h1 : Lib.hasPrefix (entT e) [99, 111, 108, 117, 109, 110, 32] = false := by
    have h2 := itoa_pos h
    have h3 := itoa_dgc h
    unfold entT Lib.hasPrefix
    cases hl : itoa e.fr with
    | nil => rw [hl] at h2; simp at h2
    | cons b r =>
      rw [hl] at h3
      have h4 := h3 b (by simp)
      have h5 : ((99 : UInt8) == b) = false := by
        rw [beq_eq_false_iff_ne]
        rintro rfl
        unfold dgc at h4
        revert h4; decide
      simp [List.isPrefixOf, h5]
  refine ⟨h1, ?_⟩
  unfold Lib.trimPrefix
  rw [h1]
  rfl
theorem pre_hdr4 {x : Idx} (h : x.fmt = 4) : Lib.hasPrefix (hdrT x) [105, 110, 100, 101, 120, 32, 98, 114, 97, 99, 101, 32] = false ∧ Lib.hasPrefix (hdrT x) [105, 110, 100, 101, 120, 32, 100, 101, 108, 105, 109, 32] = true ∧ Lib.trimPrefix (hdrT x) [105, 110, 100, 101, 120, 32, 100, 101, 108, 105, 109, 32] = itoa x.size ++ 32 :: itoa x.depth := by
  have e : hdrT x = [105, 110, 100, 101, 120, 32, 100, 101, 108, 105, 109, 32] ++ (itoa x.size ++ 32 :: itoa x.depth) := by
    unfold hdrT nameT
    rw [if_pos h]
    simp
  have h2 : Lib.hasPrefix (hdrT x) [105, 110, 100, 101, 120, 32, 100, 101, 108, 105, 109, 32] = true := by
    rw [e]; unfold Lib.hasPrefix; simp [List.isPrefixOf]
  refine ⟨by rw [e]; unfold Lib.hasPrefix; simp [List.isPrefixOf], h2, ?_⟩
  unfold Lib.trimPrefix
  rw [if_pos h2, e]
  rfl
theorem pre_hdr1 {x : Idx} (h : x.fmt = 1) : Lib.hasPrefix (hdrT x) [105, 110, 100, 101, 120, 32, 98, 114, 97, 99, 101, 32] = true ∧ Lib.trimPrefix (hdrT x) [105, 110, 100, 101, 120, 32, 98, 114, 97, 99, 101, 32] = itoa x.size ++ 32 :: itoa x.depth := by
  have e : hdrT x = [105, 110, 100, 101, 120, 32, 98, 114, 97, 99, 101, 32] ++ (itoa x.size ++ 32 :: itoa x.depth) := by
    unfold hdrT nameT
    rw [if_neg (by omega)]
    simp
  have h2 : Lib.hasPrefix (hdrT x) [105, 110, 100, 101, 120, 32, 98, 114, 97, 99, 101, 32] = true := by
    rw [e]; unfold Lib.hasPrefix; simp [List.isPrefixOf]
  refine ⟨h2, ?_⟩
  unfold Lib.trimPrefix
  rw [if_pos h2, e]
  rfl
theorem ent_cut {e : Ent} (h : 0 ≤ e.fr) : Lib.cut (entT e) [32] = (itoa e.fr, itoa e.to ++ 32 :: pathT e.path, true) := by
  have e1 : entT e = itoa e.fr ++ 32 :: (itoa e.to ++ 32 :: pathT e.path) := by unfold entT; simp
  rw [e1]
  exact cut1_hit _ _ _ (itoa_32 h)
theorem entT_len {e : Ent} (hg : GdP e.path) (h0 : 0 ≤ e.fr) (h1 : e.fr ≤ 1048576) (h2 : 0 ≤ e.to) (h3 : e.to ≤ 1048576) : (entT e).length ≤ 297617 ∧ (itoa e.to ++ 32 :: pathT e.path).length ≤ 297617 := by
  have a1 := pathT_len' hg
  have a2 := itoa_le h0 h1
  have a3 := itoa_le h2 h3
  simp only [entT, List.length_append, List.length_cons, List.length_nil]
  omega
theorem line_cases {x : Idx} {i : Nat} (h : i < x.cols.length + x.ents.length) : (∃ c, i < x.cols.length ∧ x.cols[i]? = some c ∧ (linesX x)[i + 1]? = some (colT c)) ∨ ∃ e, x.cols.length ≤ i ∧ x.ents[i - x.cols.length]? = some e ∧ (linesX x)[i + 1]? = some (entT e) := by
  rcases Nat.lt_or_ge i x.cols.length with h1 | h1
  · obtain ⟨c, h2, h3⟩ := linesX_col h1
    exact .inl ⟨c, h1, h2, h3⟩
  · obtain ⟨e, h2, h3⟩ := linesX_ent (x := x) (j := i - x.cols.length) (by omega)
    rw [show x.cols.length + (i - x.cols.length) + 1 = i + 1 by omega] at h3
    exact .inr ⟨e, h1, h2, h3⟩
end Go.Dk
end
section
set_option linter.unusedVariables false
set_option linter.unusedSimpArgs false
namespace Go.Dk
open Go Go.RowKit Go.Lib
section
variable {w0 w : World} {L : List (Nat × Obj)} {R R' : List Row}
theorem Cxr.permR (h : Cxr w0 w L R) (hp : R.Perm R') : Cxr w0 w L R' :=
  ⟨h.ext, h.own, h.lo, h.nd, fun r hr => h.rows r (hp.mem_iff.2 hr), fun r hr => h.off r (hp.mem_iff.2 hr), (hp.pairwise_iff (fun {x y} hxy k hk hk' => hxy k hk' hk)).1 h.pw⟩
theorem Cxr.swapR {r s : Row} (h : Cxr w0 w L (r :: s :: R)) : Cxr w0 w L (s :: r :: R) := h.permR (List.Perm.swap _ _ _)
theorem Cxr.oneR {r : Row} (h : Cxr w0 w L R) (hr : r ∈ R) : Cxr w0 w [] [r] :=
  ⟨h.ext, by simp, by simp, by simp, fun s hs => by obtain rfl := List.mem_singleton.1 hs; exact h.rows _ hr, by simp, by simp⟩
theorem pth_mem {t n : Nat} {v : Value} {l : List Stp} (h : Cxr w0 w L R) (hr : (⟨t, 3, v, n, l.flatMap srow⟩ : Row) ∈ R) (hn : n = l.length) (h0 : 0 < l.length) : Pth w v l := pth_row (h.oneR hr) hn h0
theorem Cxr.rowA {e k n : Nat} {v : Value} {xs : List Value} (h : Cxr w0 w L (⟨e, k, v, n, xs⟩ :: R)) : ∃ b, SliceAt (fun b => b < w.heap.size) v n b 0 ∧ (0 < xs.length → RowAt w b 0 xs) := by
  rcases Nat.eq_zero_or_pos xs.length with h0 | h0
  · have hrow := h.rows _ (List.mem_cons_self ..)
    simp only at hrow
    rcases hrow.2 with ⟨h1, h2⟩ | ⟨g, cap, cur, rfl, hb, hg, hnc, _⟩
    · exact ⟨0, .inl ⟨h2, h1⟩, fun h => by omega⟩
    · exact ⟨g, .inr ⟨_, _, rfl, hnc, fun _ => ⟨rfl, (Array.getElem?_eq_some_iff.1 hg).1⟩⟩, fun h => by omega⟩
  · obtain ⟨g, c, rfl, hc, hg, hr⟩ := h.rowS h0
    exact ⟨g, .inr ⟨_, _, rfl, hc, fun _ => ⟨rfl, hg⟩⟩, fun _ => hr⟩
end
def erow (p : Value) (e : Ent) : List Value := [p, .int .i64 e.fr, .int .i64 e.to]
def prow (t : Nat) (p : Value) (e : Ent) : Row := ⟨t, 3, p, e.path.length, e.path.flatMap srow⟩
def ecells : List Value → List Ent → List Value
  | p :: ps, e :: es => erow p e ++ ecells ps es
  | _, _ => []
def prows (t : Nat) : List Value → List Ent → List Row
  | p :: ps, e :: es => prow t p e :: prows t ps es
  | _, _ => []
theorem ecells_snoc : ∀ (ps : List Value) (es : List Ent) (p : Value) (e : Ent), ps.length = es.length → ecells (ps ++ [p]) (es ++ [e]) = ecells ps es ++ erow p e
  | [], [], p, e, _ => by simp [ecells]
  | q :: ps, f :: es, p, e, h => by
    simp only [List.cons_append, ecells, ecells_snoc ps es p e (by simpa using h), List.append_assoc]
  | [], _ :: _, _, _, h => by simp at h
  | _ :: _, [], _, _, h => by simp at h
theorem prows_snoc (t : Nat) : ∀ (ps : List Value) (es : List Ent) (p : Value) (e : Ent), ps.length = es.length → prows t (ps ++ [p]) (es ++ [e]) = prows t ps es ++ [prow t p e]
  | [], [], p, e, _ => by simp [prows]
  | q :: ps, f :: es, p, e, h => by
    simp only [List.cons_append, prows, prows_snoc t ps es p e (by simpa using h)]
  | [], _ :: _, _, _, h => by simp at h
  | _ :: _, [], _, _, h => by simp at h
theorem ecells_len : ∀ (ps : List Value) (es : List Ent), ps.length = es.length → (ecells ps es).length = 3 * es.length
  | [], [], _ => rfl
  | q :: ps, f :: es, h => by
    simp only [ecells, List.length_append, List.length_cons, erow, List.length_nil, ecells_len ps es (by simpa using h)]
    omega
  | [], _ :: _, h => by simp at h
  | _ :: _, [], h => by simp at h
theorem ecells_at (t : Nat) : ∀ (ps : List Value) (es : List Ent) (i : Nat) (x : Ent), ps.length = es.length → es[i]? = some x →
    ∃ p, prow t p x ∈ prows t ps es ∧ ∀ j v, (erow p x)[j]? = some v → (ecells ps es)[i * 3 + j]? = some v
  | [], [], i, x, _, hx => by simp at hx
  | q :: ps, f :: es, 0, x, h, hx => by
    simp only [List.getElem?_cons_zero, Option.some.injEq] at hx
    subst hx
    refine ⟨q, by simp [prows], fun j v hv => ?_⟩
    have hj := (List.getElem?_eq_some_iff.1 hv).1
    simp only [ecells]
    rw [show 0 * 3 + j = j by omega, List.getElem?_append_left hj]
    exact hv
  | q :: ps, f :: es, i + 1, x, h, hx => by
    obtain ⟨p, h1, h2⟩ := ecells_at t ps es i x (by simpa using h) (by simpa using hx)
    refine ⟨p, by simp only [prows]; exact List.mem_cons_of_mem _ h1, fun j v hv => ?_⟩
    simp only [ecells]
    rw [List.getElem?_append_right (by simp [erow]; omega), show (i + 1) * 3 + j - (erow q f).length = i * 3 + j by simp [erow]; omega]
    exact h2 j v hv
  | [], _ :: _, _, _, h, _ => by simp at h
  | _ :: _, [], _, _, h, _ => by simp at h
theorem ens_of {w0 w : World} {L : List (Nat × Obj)} {R : List Row} {t u n : Nat} {ve : Value} {ps : List Value} {es : List Ent} (h : Cxr w0 w L (⟨u, 3, ve, n, ecells ps es⟩ :: R)) (hn : n = es.length) (hl : ps.length = es.length) (hm : ∀ q ∈ prows t ps es, q ∈ R) (h0 : ∀ e ∈ es, 0 < e.path.length) : Ens w ve es := by
  subst hn
  obtain ⟨b, hs, hr⟩ := h.rowA
  refine ⟨b, 0, hs, fun i x hx => ?_⟩
  have hlt := (List.getElem?_eq_some_iff.1 hx).1
  have hr := hr (by rw [ecells_len ps es hl]; omega)
  obtain ⟨p, h1, h2⟩ := ecells_at t ps es i x hl hx
  refine ⟨p, fun j v hv => ?_, pth_mem h (List.mem_cons_of_mem _ (hm _ h1)) rfl (h0 x (List.mem_of_getElem? hx))⟩
  have := hr (i * 3 + j) v (h2 j v hv)
  rwa [show 0 + i * 3 + j = 0 + (i * 3 + j) by omega]
theorem cls_of {w0 w : World} {L : List (Nat × Obj)} {R : List Row} {u n : Nat} {vc : Value} {cs : List ByteArray} (h : Cxr w0 w L (⟨u, 1, vc, n, cs.map Value.string⟩ :: R)) (hn : n = cs.length) : Cls w vc cs := by
  subst hn
  obtain ⟨b, hs, hr⟩ := h.rowA
  refine ⟨b, 0, hs, fun i x hx => ?_⟩
  have hlt := (List.getElem?_eq_some_iff.1 hx).1
  have hr := hr (by simp; omega)
  intro j v hv
  cases j with
  | zero =>
    simp only [List.getElem?_cons_zero, Option.some.injEq] at hv
    subst hv
    have := hr i (.string x) (by simp [hx])
    rwa [show 0 + i * 1 + 0 = 0 + i by omega]
  | succ j => simp at hv
theorem take_str {l : List ByteArray} {i : Nat} {c : ByteArray} (h : l[i]? = some c) : (l.take i).map Value.string ++ [.string c] = (l.take (i + 1)).map Value.string := by
  rw [take_snoc h, List.map_append]
  rfl
end Go.Dk
namespace Go.Dk
open Go Go.RowKit Go.Lib
theorem results_tmp4 {fn : Func} {t u v x : Nat} (h : fn.results = #[.tmp t, .tmp u, .tmp v, .tmp x]) (tmps : Array Value) (P : Program) (w : World) :
    (results fn tmps).run P w = .ok (.tuple #[tmps.getD t undef, tmps.getD u undef, tmps.getD v undef, tmps.getD x undef]) w := by
  simp [results, h]
theorem ret_tmp4 {P : Program} {fn : Func} {R : Value → World → Prop} {n : Nat} {f : Nat → Value} {w : World} {t u t3 t4 : Nat} {v x y z : Value}
    (hr : fn.results = #[.tmp t, .tmp u, .tmp t3, .tmp t4]) (hv : ev n f (.tmp t) = v) (hx : ev n f (.tmp u) = x) (hy : ev n f (.tmp t3) = y) (hz : ev n f (.tmp t4) = z) (h : R (.tuple #[v, x, y, z]) w) : bodyPost P fn (fun e w' => ∃ v, e = .returned v ∧ R v w') .ret (St n f) w := by
  refine ⟨rfl, _, ?_, _, rfl, h⟩
  rw [results_tmp4 hr]
  rw [← hv, ← hx, ← hy, ← hz, ← eval_St]; rfl
end Go.Dk
namespace Go.Dk
open Go Go.RowKit Go.Lib
section
variable {P : Program} {Q : Exit → Act → World → Prop} {w w0 wk : World} {L : List (Nat × Obj)} {R : List Row} {n : Nat} {f : Nat → Value} {o : Oper} {ρ : Operand → Value}
theorem w_ordF {id : Nat} {l : List Oper} (cx : Cxr w0 w L R) (hm : P.follows .mixedOrders = true) (pu : List (Nat × Nat)) (m : Array Bool)
    (hch : chkOrd l.toArray pu = true) (hmk : mskOrd l.toArray pu m = true) (hn : pu.all (fun p => Nat.blt p.2 n) = true) (hi : incr pu = true)
    (h : wpPu P l.toArray n (fun w' => Cxr w0 w' L R) (fun g => ∀ w', Cxr w0 w' L R → Below w.heap.size w w' → wpX P l.toArray pu Q (fun w' => Cxr w0 w' L R) (l.length + 1) m (St n g) w') pu f) : (Code.region id l.toArray true).wp P Q (St n f) w := by
  obtain ⟨g, hF, hag, hall⟩ := wpPu_spec hch pu f (fun _ h => h) hi h
  refine w_orders cx hm pu m (fun w' => Cxr w0 w' L R) g hch hmk (fun p hp => by have := List.all_eq_true.1 hn p hp; simpa using this) hag (fun p hp => ?_) (fun w' hS p hp => ?_) fun w' hc hb he => ⟨hc, hF w' hc hb⟩
  · obtain ⟨o, h1, h2, _⟩ := hall p hp; exact ⟨o, by simpa using h1, h2⟩
  · obtain ⟨o, h1, _, h2⟩ := hall p hp; exact ⟨o, by simpa using h1, h2 w' hS⟩
theorem v_slMid {t e s b k len cap : Nat} {x y z : Operand} {kd kd' : IntKind} {l h : Int} (ho : o.op = .slice t x (some y) (some z) none) (hx : ρ x = .slice (some ⟨b, k, none⟩) len cap) (hy : ρ y = .int kd l) (hz : ρ z = .int kd' h) (hu : P.underlying t = some (.slice e)) (hs : (P.info? e).map (·.size) = some s) (h0 : 0 ≤ l) (h1 : l ≤ h) (h2 : h ≤ cap) (h3 : l < cap) :
    (execOp ρ o).run P w = .ok (.value (.slice (some ⟨b, k + l.toNat * s, none⟩) (h.toNat - l.toNat) (cap - l.toNat))) w := by
  unfold execOp; rw [ho]
  have h5 : ¬ cap = l.toNat := by omega
  have h7 : 0 ≤ h := by omega
  have h8 : max h 0 = h := by omega
  simp [hx, hy, hz, Instr.sliceAt, Instr.slice, Instr.sliceBounds, Instr.sliceBound, asIntOf, run_underlying hu, h0, h1, h2, run_size (w := w) hs, add_addr, h5, h7, h8]
end
end Go.Dk
end
section
set_option linter.unusedSimpArgs false
set_option linter.unusedVariables false
namespace Go.Proofs.YthiafbkolhnadaaGreatDoor
open Go Go.Dk Go.RowKit Go.Lib
attribute [local irreducible] Go.wpList Go.Code.wp Go.bodyPost Go.wpStill Go.wpQuiet
set_option maxHeartbeats 4000000 in
set_option maxRecDepth 10000 in
theorem c56 (s s1 r : List UInt8) (m n : Int) (u1 u2 : Bool) (h1 : Lib.cut s [32] = (itoa m, s1, u1)) (h2 : Lib.cut s1 [32] = (itoa n, r, u2)) (hm0 : 0 ≤ m) (hm1 : m ≤ 1048576) (hn0 : 0 ≤ n) (hn1 : n ≤ 1048576) (hs : s.length ≤ 1073741824) (hs1 : s1.length ≤ 1073741824) (w0 : World) (hcn : Cnt w0) : Fc Tryz.prog 56 [.string (bs s)] w0 (fun v _ => v = .tuple #[.int .i64 m, .int .i64 n, .string (bs r), .bool true]) := by
  refine ret_enter Tryz.func56 rfl Tryz.ntmps56 rfl ?_
  have cx := Ctx.start w0
  refine wp_seq ?_
  refine wp_region_lit ?_
  refine s_val rfl rfl (v_assign rfl rfl) ?_
  refine s_val rfl rfl (v_assign rfl rfl) ?_
  refine s_val rfl rfl (v_assign rfl rfl) ?_
  refine s_val rfl rfl (v_assign rfl rfl) ?_
  refine wpList_nil ?_
  refine wp_seq ?_
  refine wp_region_lit ?_
  refine s_val rfl rfl (v_move rfl rfl) ?_
  refine s_fn cx (c105 s [32] _ (hcn.up cx.ext) (by omega)) Tryz.func105 rfl rfl rfl rfl rfl rfl ?_; intro q14 w cx hw14 hp14
  simp only [h1] at hp14
  subst hp14
  refine s_val rfl rfl (v_move rfl rfl) ?_
  refine s_val rfl rfl (v_extract rfl rfl rfl) ?_
  refine s_val rfl rfl (v_extract rfl rfl rfl) ?_
  refine s_val rfl rfl (v_extract rfl rfl rfl) ?_
  refine s_val rfl rfl (v_assign rfl rfl) ?_
  refine s_val rfl rfl (v_assign rfl rfl) ?_
  refine s_val rfl rfl (v_assign rfl rfl) ?_
  refine wpList_nil ?_
  refine wp_seq ?_
  refine wp_region_lit ?_
  refine s_val rfl rfl (v_move rfl rfl) ?_
  refine s_fn cx (c105 s1 [32] _ (hcn.up cx.ext) (by omega)) Tryz.func105 rfl rfl rfl rfl rfl rfl ?_; intro q20 w cx hw20 hp20
  simp only [h2] at hp20
  subst hp20
  refine s_val rfl rfl (v_move rfl rfl) ?_
  refine s_val rfl rfl (v_extract rfl rfl rfl) ?_
  refine s_val rfl rfl (v_extract rfl rfl rfl) ?_
  refine s_val rfl rfl (v_extract rfl rfl rfl) ?_
  refine s_val rfl rfl (v_assign rfl rfl) ?_
  refine s_val rfl rfl (v_assign rfl rfl) ?_
  refine s_val rfl rfl (v_assign rfl rfl) ?_
  refine wpList_nil ?_
  refine wp_seq ?_
  refine wp_region_lit ?_
  refine s_val rfl rfl (v_move rfl rfl) ?_
  refine s_fn cx (c106 m _ hm0 hm1) Tryz.func106 rfl rfl rfl rfl rfl rfl ?_; intro q26 w cx hw26 hp26
  subst hp26
  refine s_val rfl rfl (v_move rfl rfl) ?_
  refine s_val rfl rfl (v_extract rfl rfl rfl) ?_
  refine s_val rfl rfl (v_extract rfl rfl rfl) ?_
  refine s_val rfl rfl (v_assign rfl rfl) ?_
  refine s_val rfl rfl (v_assign rfl rfl) ?_
  refine wpList_nil ?_
  refine wp_seq ?_
  refine wp_region_lit ?_
  refine s_val rfl rfl (v_move rfl rfl) ?_
  refine s_fn cx (c106 n _ hn0 hn1) Tryz.func106 rfl rfl rfl rfl rfl rfl ?_; intro q31 w cx hw31 hp31
  subst hp31
  refine s_val rfl rfl (v_move rfl rfl) ?_
  refine s_val rfl rfl (v_extract rfl rfl rfl) ?_
  refine s_val rfl rfl (v_extract rfl rfl rfl) ?_
  refine s_val rfl rfl (v_assign rfl rfl) ?_
  refine s_val rfl rfl (v_assign rfl rfl) ?_
  refine wpList_nil ?_
  refine wp_seq ?_
  refine w_quiet cx mixed (by kernel_rfl) ?_
  refine q_val rfl rfl (fun w cx hwQ => v_move rfl rfl) ?_
  refine q_val rfl rfl (fun w cx hwQ => v_move rfl rfl) ?_
  refine q_val rfl rfl (fun w cx hwQ => v_move rfl rfl) ?_
  refine q_val rfl rfl (fun w cx hwQ => v_move rfl rfl) ?_
  refine q_val rfl rfl (fun w cx hwQ => v_nilErr Tryz.underlying184 rfl rfl rfl) ?_
  refine q_val rfl rfl (fun w cx hwQ => v_move rfl rfl) ?_
  refine q_gval rfl rfl rfl (by first | exact w_tt rfl | exact w_gt rfl) (fun hc w cx hwQ => v_move rfl (by first | exact gve hc rfl | exact gve (and_l hc) rfl | exact gve (and_l (and_l hc)) rfl | rfl)) ?_
  refine q_gval rfl rfl rfl (by first | exact w_tt rfl | exact w_gt rfl) (fun hc w cx hwQ => v_nilErr Tryz.underlying184 rfl (by first | exact gve hc rfl | rfl) rfl) ?_
  refine q_val rfl rfl (fun w cx hwQ => v_and rfl rfl rfl rfl) ?_
  refine q_val rfl rfl (fun w cx hwQ => v_assign rfl rfl) ?_
  refine q_val rfl rfl (fun w cx hwQ => v_assign rfl rfl) ?_
  refine q_val rfl rfl (fun w cx hwQ => v_assign rfl rfl) ?_
  refine q_val rfl rfl (fun w cx hwQ => v_assign rfl rfl) ?_
  refine q_nil ?_; rintro w ⟨cx, hwQ5⟩
  refine wp_ret ?_
  refine ret_tmp4 Tryz.results56 rfl rfl rfl rfl ?_
  exact ⟨cx.ext, rfl⟩
theorem bdS48 (m n : Int) (w : World) : (Instr.build 48 ([(0, .int .i64 m), (1, .int .i64 n)] : List (Nat × Value)).toArray).run Tryz.prog w = .ok (.agg #[.int .i64 m, .int .i64 n]) w := by
  go_simp
  try rfl
theorem bdE52 (a : Option Addr) (l c : Nat) (m n : Int) (w : World) : (Instr.build 52 ([(0, .slice a l c), (1, .agg #[.int .i64 m, .int .i64 n])] : List (Nat × Value)).toArray).run Tryz.prog w = .ok (.agg #[.slice a l c, .int .i64 m, .int .i64 n]) w := by
  go_simp
  try rfl
set_option maxHeartbeats 4000000 in
set_option maxRecDepth 10000 in
theorem c57c (wb w0 : World) (b n : Nat) (f0 f1 f2 : Int) (ve vc : Value) (c : ByteArray) (xs : List Value) (L : List (Nat × Obj)) (R : List Row) (cx0 : Cxr wb w0 ((b, .cells ([.int .i64 f0, .int .i64 f1, .int .i64 f2, ve, vc] : List Value).toArray 35) :: L) (⟨9, 1, vc, n, xs⟩ :: R)) (hn : n ≤ 1048576) (hv : validD c.data.toList = true) (hc : c.size ≤ 1024) : Ret Tryz.prog 57 [.pointer (some ⟨b, 0, none⟩), .string (bs (colT c))] w0 (fun v w' => v = .bool true ∧ ∃ vc', Cxr wb w' ((b, .cells ([.int .i64 f0, .int .i64 f1, .int .i64 f2, ve, vc'] : List Value).toArray 35) :: L) (⟨9, 1, vc', n + 1, xs ++ [.string c]⟩ :: R)) := by
  refine ret_enter Tryz.func57 rfl Tryz.ntmps57 rfl ?_
  have cx := cx0
  refine wp_seq ?_
  refine wp_region_lit ?_
  refine s_val rfl rfl (v_assign rfl rfl) ?_
  refine wpList_nil ?_
  refine wp_seq ?_
  refine wp_seq ?_
  refine wp_region_lit ?_
  refine s_val rfl rfl (v_move rfl rfl) ?_
  refine s_fn cx (c55 (colT c) [99, 111, 108, 117, 109, 110, 32] _) Tryz.func55 rfl rfl rfl rfl rfl rfl ?_; intro q17 w cx hw17 hp17
  simp only [(pre_col c).1, (pre_col c).2] at hp17
  subst hp17
  refine s_val rfl rfl (v_move rfl rfl) ?_
  refine s_val rfl rfl (v_extract rfl rfl rfl) ?_
  refine s_val rfl rfl (v_extract rfl rfl rfl) ?_
  refine s_val rfl rfl (v_assign rfl rfl) ?_
  refine s_val rfl rfl (v_assign rfl rfl) ?_
  refine wpList_nil ?_
  refine wp_seq ?_
  refine wp_region_lit ?_
  refine s_val rfl rfl (v_move rfl rfl) ?_
  refine wpList_nil ?_
  refine wp_cond_true (show (St _ _).eval _ = _ by rw [eval_St]; rfl) ?_
  refine wp_seq ?_
  refine wp_region_lit ?_
  refine s_val rfl rfl (v_move rfl rfl) ?_
  refine s_fn cx (c107 c _ hv hc) Tryz.func107 rfl rfl rfl rfl rfl rfl ?_; intro q23 w cx hw23 hp23
  subst hp23
  refine s_val rfl rfl (v_move rfl rfl) ?_
  refine s_val rfl rfl (v_extract rfl rfl rfl) ?_
  refine s_val rfl rfl (v_extract rfl rfl rfl) ?_
  refine s_alloc cx z83 rfl rfl rfl ?_; intro b7 w cx hb7 hw7
  refine s_storeAll cx 0 rfl rfl rfl rfl rfl rfl sz83 rfl rfl ?_; intro w cx hwS3
  refine s_val rfl rfl (v_assign rfl rfl) ?_
  refine wpList_nil ?_
  refine wp_seq ?_
  refine w_ord cx (cx.noR.pick2 0 1 rfl rfl rfl) mixed [(0, 26), (1, 27), (2, 28), (3, 29), (4, 30), (5, 31), (6, 32)] #[true, true, true, true, true, true, true, false, false, false, false, false] (by kernel_rfl) (by kernel_rfl) (by kernel_rfl) (by kernel_rfl) ?_
  refine pu_one rfl (wnt_none rfl) (fun w cx => v_move rfl rfl) ?_
  refine pu_one rfl (wnt_none rfl) (fun w cx => v_move rfl rfl) ?_
  refine pu_one rfl (wnt_none rfl) (fun w cx => v_nilCk rfl rfl) ?_
  refine pu_one rfl (wnt_none rfl) (fun w cx => v_fa fa35_4 rfl rfl) ?_
  refine pu_one rfl (wnt_none rfl) (fun w cx => v_load1 rfl rfl Tryz.underlying33 rfl ((cx.row 1 rfl).cell 4 rfl)) ?_
  refine pu_one rfl (wnt_none rfl) (fun w cx => v_fa fa83_4 rfl rfl) ?_
  refine pu_one rfl (wnt_none rfl) (fun w cx => v_load1 rfl rfl Tryz.underlying9 rfl (cx.cell 0 rfl rfl)) ?_
  refine pu_nil ?_; intro w cx hwD4
  refine x_one (i := 7) (by kernel_rfl) rfl ?_
  refine s_bsl1 cx Tryz.underlying33 sz9 z9 rfl rfl rfl rfl rfl rfl rfl rfl ?_; intro b33 w cx hb33 hw33
  refine x_next ⟨.inl (by first | exact cx.noR.pick2 0 1 rfl rfl rfl | exact cx.noR.pick2 1 2 rfl rfl rfl), ?_⟩
  refine x_one (i := 8) (by kernel_rfl) rfl ?_
  refine s_append cx ei9 Tryz.underlying33 rfl rfl rfl rfl rfl (cx.row 0 rfl) rfl rfl (by omega) ?_; intro v34 w cx hgr34
  replace cx := cx.drop 1
  refine x_next ⟨.inl (by first | exact cx.noR.pick2 0 1 rfl rfl rfl | exact cx.noR.pick2 1 2 rfl rfl rfl), ?_⟩
  refine x_one (i := 9) (by kernel_rfl) rfl ?_
  refine s_val rfl rfl (v_nilCk rfl rfl) ?_
  refine x_next ⟨.inr (by kernel_rfl), ?_⟩
  refine x_one (i := 10) (by kernel_rfl) rfl ?_
  refine s_val rfl rfl (v_fa fa35_4 rfl rfl) ?_
  refine x_next ⟨.inr (by kernel_rfl), ?_⟩
  refine x_one (i := 11) (by kernel_rfl) rfl ?_
  refine s_store1 (v := v34) cx 1 rfl rfl rfl rfl rfl cx.oneS rfl rfl sz33 ?_; intro w cx hwS4
  refine x_next ⟨.inr (by kernel_rfl), ?_⟩
  refine x_done (by kernel_rfl) ?_
  refine wp_seq ?_
  refine wp_region_lit ?_
  refine s_val rfl rfl (v_move rfl rfl) ?_
  refine s_val rfl rfl (v_cmp rfl rfl rfl rfl) ?_
  refine s_val rfl rfl (v_assign rfl rfl) ?_
  refine wpList_nil ?_
  refine wp_ret ?_
  refine ret_tmp Tryz.results57 rfl ?_
  exact ⟨rfl, v34, cx.drop 1⟩
set_option maxHeartbeats 4000000 in
set_option maxRecDepth 10000 in
theorem c57e (wb w0 : World) (b n : Nat) (f0 f1 f2 : Int) (ve vc : Value) (e : Ent) (xs : List Value) (L : List (Nat × Obj)) (R : List Row) (cx0 : Cxr wb w0 ((b, .cells ([.int .i64 f0, .int .i64 f1, .int .i64 f2, ve, vc] : List Value).toArray 35) :: L) (⟨52, 3, ve, n, xs⟩ :: R)) (hn : n ≤ 1048576) (hg : GdP e.path) (h0 : 0 < e.path.length) (hr0 : 0 ≤ e.fr) (hr1 : e.fr ≤ 1048576) (hr2 : 0 ≤ e.to) (hr3 : e.to ≤ 1048576) (hcn : Cnt wb) (ht : Tabs wb) : Ret Tryz.prog 57 [.pointer (some ⟨b, 0, none⟩), .string (bs (entT e))] w0 (fun v w' => v = .bool true ∧ ∃ ve' p, Cxr wb w' ((b, .cells ([.int .i64 f0, .int .i64 f1, .int .i64 f2, ve', vc] : List Value).toArray 35) :: L) (⟨52, 3, ve', n + 1, xs ++ erow p e⟩ :: prow 107 p e :: R)) := by
  have hel := entT_len hg hr0 hr1 hr2 hr3
  refine ret_enter Tryz.func57 rfl Tryz.ntmps57 rfl ?_
  have cx := cx0
  refine wp_seq ?_
  refine wp_region_lit ?_
  refine s_val rfl rfl (v_assign rfl rfl) ?_
  refine wpList_nil ?_
  refine wp_seq ?_
  refine wp_seq ?_
  refine wp_region_lit ?_
  refine s_val rfl rfl (v_move rfl rfl) ?_
  refine s_fn cx (c55 (entT e) [99, 111, 108, 117, 109, 110, 32] _) Tryz.func55 rfl rfl rfl rfl rfl rfl ?_; intro q17 w cx hw17 hp17
  simp only [(pre_ent hr0).1, (pre_ent hr0).2] at hp17
  subst hp17
  refine s_val rfl rfl (v_move rfl rfl) ?_
  refine s_val rfl rfl (v_extract rfl rfl rfl) ?_
  refine s_val rfl rfl (v_extract rfl rfl rfl) ?_
  refine s_val rfl rfl (v_assign rfl rfl) ?_
  refine s_val rfl rfl (v_assign rfl rfl) ?_
  refine wpList_nil ?_
  refine wp_seq ?_
  refine wp_region_lit ?_
  refine s_val rfl rfl (v_move rfl rfl) ?_
  refine wpList_nil ?_
  refine wp_cond_false (show (St _ _).eval _ = _ by rw [eval_St]; rfl) ?_
  refine wp_skip ?_
  refine wp_seq ?_
  refine wp_region_lit ?_
  refine s_val rfl rfl (v_move rfl rfl) ?_
  refine s_fn cx (c56 (entT e) (itoa e.to ++ 32 :: pathT e.path) (pathT e.path) e.fr e.to true true (ent_cut hr0) (cut1_hit _ _ _ (itoa_32 hr2)) hr0 hr1 hr2 hr3 (by omega) (by omega) _ (hcn.up cx.ext)) Tryz.func56 rfl rfl rfl rfl rfl rfl ?_; intro q41 w cx hw41 hp41
  subst hp41
  refine s_val rfl rfl (v_move rfl rfl) ?_
  refine s_val rfl rfl (v_extract rfl rfl rfl) ?_
  refine s_val rfl rfl (v_extract rfl rfl rfl) ?_
  refine s_val rfl rfl (v_extract rfl rfl rfl) ?_
  refine s_val rfl rfl (v_extract rfl rfl rfl) ?_
  refine s_val rfl rfl (v_assign rfl rfl) ?_
  refine s_val rfl rfl (v_assign rfl rfl) ?_
  refine s_val rfl rfl (v_assign rfl rfl) ?_
  refine s_val rfl rfl (v_assign rfl rfl) ?_
  refine wpList_nil ?_
  refine wp_seq ?_
  refine wp_region_lit ?_
  refine s_val rfl rfl (v_move rfl rfl) ?_
  have cxB := cx
  refine s_fn cx (c108 e.path _ hg h0 (ht.up cx.ext)) Tryz.func108 rfl rfl rfl rfl rfl rfl ?_; intro q48 w cx hw48 hp48
  obtain ⟨pv, rfl, hrow⟩ := hp48
  replace cx := cxB.callRow hw48 hrow
  obtain ⟨a48, c48, rfl⟩ := cx.rowSl
  replace cx := cx.swapR
  refine s_val rfl rfl (v_move rfl rfl) ?_
  refine s_val rfl rfl (v_extract rfl rfl rfl) ?_
  refine s_val rfl rfl (v_extract rfl rfl rfl) ?_
  refine s_val rfl rfl (v_assign rfl rfl) ?_
  refine s_val rfl rfl (v_assign rfl rfl) ?_
  refine wpList_nil ?_
  refine wp_seq ?_
  refine wp_region_lit ?_
  refine s_val rfl rfl (v_move rfl rfl) ?_
  refine s_val rfl rfl (v_move rfl rfl) ?_
  refine s_val rfl rfl (v_nilCk rfl rfl) ?_
  refine s_val rfl rfl (v_fa fa35_3 rfl rfl) ?_
  refine s_val rfl rfl (v_load1 rfl rfl Tryz.underlying32 rfl ((cx.row 0 rfl).cell 3 rfl)) ?_
  refine s_val rfl rfl (v_move rfl rfl) ?_
  refine s_val rfl rfl (v_move rfl rfl) ?_
  refine s_val rfl rfl (v_move rfl rfl) ?_
  refine s_val rfl rfl (v_build (qs := [(0, .int .i64 e.fr), (1, .int .i64 e.to)]) (bdS48 e.fr e.to) rfl rfl) ?_
  refine s_val rfl rfl (v_build (qs := [(0, .slice a48 e.path.length c48), (1, .agg #[.int .i64 e.fr, .int .i64 e.to])]) (bdE52 a48 e.path.length c48 e.fr e.to) rfl rfl) ?_
  refine s_bsl1 cx Tryz.underlying32 sz52 z52 rfl rfl rfl rfl rfl rfl rfl rfl ?_; intro b61 w cx hb61 hw61
  refine s_append cx ei52 Tryz.underlying32 rfl rfl rfl rfl rfl (cx.row 0 rfl) rfl rfl (by omega) ?_; intro v62 w cx hgr62
  replace cx := cx.drop 1
  refine s_val rfl rfl (v_nilCk rfl rfl) ?_
  refine s_val rfl rfl (v_fa fa35_3 rfl rfl) ?_
  refine s_store1 (v := v62) cx 0 rfl rfl rfl rfl rfl cx.oneS rfl rfl sz32 ?_; intro w cx hwS8
  refine wpList_nil ?_
  refine wp_seq ?_
  refine wp_region_lit ?_
  refine s_val rfl rfl (v_move rfl rfl) ?_
  refine s_val rfl rfl (v_move rfl rfl) ?_
  refine s_gval rfl rfl rfl (by first | exact w_tt rfl | exact w_gt rfl) (fun hc => v_move rfl (by first | exact gve hc rfl | exact gve (and_l hc) rfl | exact gve (and_l (and_l hc)) rfl | rfl)) ?_
  refine s_gval rfl rfl rfl (by first | exact w_tt rfl | exact w_gt rfl) (fun hc => v_cmp rfl (by first | exact gve hc rfl | exact gve (and_l hc) rfl | exact gve (and_l (and_l hc)) rfl | rfl) rfl rfl) ?_
  refine s_val rfl rfl (v_and rfl rfl rfl rfl) ?_
  refine s_val rfl rfl (v_assign rfl rfl) ?_
  refine wpList_nil ?_
  refine wp_ret ?_
  refine ret_tmp Tryz.results57 rfl ?_
  exact ⟨rfl, v62, .slice a48 e.path.length c48, cx⟩
end Go.Proofs.YthiafbkolhnadaaGreatDoor
end
