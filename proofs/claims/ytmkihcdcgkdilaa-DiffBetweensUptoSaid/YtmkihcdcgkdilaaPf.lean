/-
  Contract: the law DiffBetweens.
-/
import Derived.Test.YtmkihcdcgkdilaaPe
import Derived.Test.YtmkihcdcgkdilaaCb
namespace Go.Proofs.Ytmkihcdcgkdilaa
open Go Go.Dk Go.RowKit
set_option linter.unusedSimpArgs false
set_option linter.unusedVariables false
attribute [local irreducible] Go.wpList Go.Code.wp Go.bodyPost Go.wpStill Go.wpQuiet
theorem dfr_depth {E : V → V → Bool} : ∀ (d : Nat) (p : List Stp) (a b : V) (q : List Stp), q ∈ dfr E d p a b → q.length ≤ p.length + d
  | 0, _, _, _, _, h => by simp [dfr] at h
  | d + 1, p, a, b, q, h => by
    simp only [dfr] at h
    split at h
    · cases h
    · split at h
      · obtain ⟨kv, _, h⟩ := List.mem_flatMap.1 h
        have := dfr_depth d _ _ _ q h
        rw [List.length_append, List.length_singleton] at this; omega
      · split at h
        · obtain ⟨i, _, h⟩ := List.mem_flatMap.1 h
          have := dfr_depth d _ _ _ q h
          rw [List.length_append, List.length_singleton] at this; omega
        · obtain rfl : q = p := by simpa using h
          omega
theorem classic_eqB : ∃ E : V → V → Bool, ∀ x y, E x y = true ↔ canon x = canon y := ⟨fun x y => @decide (canon x = canon y) (Classical.propDecidable _), fun x y => @decide_eq_true_iff _ (Classical.propDecidable _)⟩
theorem okv_of {v : V} (h : okd 48 v ∧ deep 60 v ∧ tsz 60 v ≤ 150) : Okv 150 v := ⟨h.1, h.2.1, h.2.2⟩
/-- a list of paths in memory -/
def Pl (w : World) (x : Value) (D : List (List Stp)) : Prop := ∃ a c g cs, x = .slice a D.length c ∧ (0 < D.length → a = some ⟨g, 0, none⟩ ∧ RowAt w g 0 cs) ∧ PthsC (fun b => b < w.heap.size) w D cs
theorem Pl.up {w w' : World} {x : Value} {D : List (List Stp)} (h : Pl w x D) (hb : Below w.heap.size w w') : Pl w' x D := by
  obtain ⟨a, c, g, cs, e, h1, h2⟩ := h
  exact ⟨a, c, g, cs, e, fun h0 => ⟨(h1 h0).1, (h1 h0).2.up hb⟩, PthsC.mono (fun _ h => Nat.lt_of_lt_of_le h hb.size) (fun b h => hb.block b h) _ _ h2⟩
theorem pl_of_row {B : Nat} {w : World} {x : Value} {D : List (List Stp)} {cs : List Value} {C : Nat → Prop} (row : w.ownsRow B 24 1 x D.length cs) (hC : ∀ b, C b → b < w.heap.size) (hp : PthsC C w D cs) : Pl w x D := by
  obtain ⟨a, c, e, h⟩ := own_row row
  have hp' := PthsC.mono hC (fun _ _ => rfl) _ _ hp
  rcases Nat.eq_zero_or_pos D.length with h0 | h0
  · exact ⟨a, c, 0, cs, e, fun h => by omega, hp'⟩
  · obtain ⟨g, h1, h2⟩ := h h0
    exact ⟨a, c, g, cs, e, fun _ => ⟨h1, h2⟩, hp'⟩
theorem c29p (D : List (List Stp)) (x y : Value) (w : World) (h1 : Pl w x D) (h2 : Pl w y D) (hl : D.length ≤ 1048576) (hpl : ∀ p ∈ D, p.length ≤ 1048576) : Fc Try.prog 29 [x, y] w (IsB fun b => b = true) := by
  obtain ⟨a1, c1, g1, cs1, rfl, hr1, hp1⟩ := h1
  obtain ⟨a2, c2, g2, cs2, rfl, hr2, hp2⟩ := h2
  exact c29 (fun b => b < w.heap.size) D cs1 cs2 a1 a2 c1 c2 g1 g2 w (fun _ h => h) hr1 hr2 hp1 hp2 hl hpl
section
variable {P : Program} {ops : Array Oper} {l : Array Bool} {k : Nat} {a : Act} {pu : List (Nat × Nat)} {Q : Exit → Act → World → Prop} {S : World → Prop} {w : World}
theorem x_four {i j m n4 : Nat} {o u v v4 : Oper} (hr : Region.ready .any ops l = [i, j, m, n4]) (ho : ops[i]? = some o) (hu : ops[j]? = some u) (hv : ops[m]? = some v) (h4 : ops[n4]? = some v4) (h : wpList P ops (Fin0 fun a' w' => (S w' ∨ lateB ops pu i = true) ∧ wpX P ops pu Q S k (l.setIfInBounds i true) a' w') [o] a w)
    (h' : wpList P ops (Fin0 fun a' w' => (S w' ∨ lateB ops pu j = true) ∧ wpX P ops pu Q S k (l.setIfInBounds j true) a' w') [u] a w) (h'' : wpList P ops (Fin0 fun a' w' => (S w' ∨ lateB ops pu m = true) ∧ wpX P ops pu Q S k (l.setIfInBounds m true) a' w') [v] a w) (h4' : wpList P ops (Fin0 fun a' w' => (S w' ∨ lateB ops pu n4 = true) ∧ wpX P ops pu Q S k (l.setIfInBounds n4 true) a' w') [v4] a w) : wpX P ops pu Q S (k + 1) l a w := by
  refine ⟨fun h0 => ?_, ?_⟩
  · rw [hr] at h0; cases h0
  · rw [hr]
    intro x hx
    have hx' : x = i ∨ x = j ∨ x = m ∨ x = n4 := by simpa using hx
    rcases hx' with rfl | rfl | rfl | rfl
    · exact ⟨o, ho, h⟩
    · exact ⟨u, hu, h'⟩
    · exact ⟨v, hv, h''⟩
    · exact ⟨v4, h4, h4'⟩
end

set_option maxRecDepth 10000 in
theorem c30 (E : V → V → Bool) (hE : ∀ x y, E x y = true ↔ canon x = canon y) (a b : V) (ra rb : List Value) (w0 : World) (hva : Val w0 a ra) (hvb : Val w0 b rb) (hoa : okd 48 a) (hob : okd 48 b) (hfa1 : Fine a) (hfb : Fine b) (hnb : (dfr E 48 [] a b).length ≤ 1048576) : Fc Try.prog 30 [.agg ra.toArray, .agg rb.toArray] w0 (fun x w' => Pl w' x (dfr E 48 [] a b)) := by
  refine ret_enter Try.func30 rfl Try.ntmps30 rfl ?_
  have cx := Ctx.start w0
  refine wp_seq ?_
  refine wp_region_lit ?_
  refine s_box cx rfl rfl rfl rfl rfl ?_; intro b2 w cx hb2 hw2
  refine s_box cx rfl rfl rfl rfl rfl ?_; intro b3 w cx hb3 hw3
  refine s_val rfl rfl (v_assign rfl rfl) ?_
  refine wpList_nil ?_
  refine wp_seq ?_
  refine wp_region_lit ?_
  refine s_val rfl rfl (v_load rfl rfl Try.underlying33 rfl sz33 (cx.row 1 rfl) hva.len) ?_
  refine s_val rfl rfl (v_load rfl rfl Try.underlying33 rfl sz33 (cx.row 0 rfl) hvb.len) ?_
  replace cx := cx.nilRow 24 1
  refine s_callR rfl rfl (runs_fn Try.func58 rfl rfl rfl rfl) (c58 E hE 48 w0 _ _ (.slice none 0 0) 0 [] [] _ a b _ _ _ cx PthA.nil (RepV.mono (fun b hb => ⟨hb, by simp [Value.ownBlock]⟩) (fun _ _ => rfl) _ _ (hva.up cx.ext)) (RepV.mono (fun b hb => ⟨hb, by simp [Value.ownBlock]⟩) (fun _ _ => rfl) _ _ (hvb.up cx.ext)) hoa hob hfa1 hfb (by simp) (by omega) (by omega)) ?_; intro q7 w hp7
  obtain ⟨cs7, cx, _, hps7, _⟩ := hp7
  refine s_val rfl rfl (v_assign rfl rfl) ?_
  refine wpList_nil ?_
  refine wp_ret ?_
  refine ret_tmp Try.results30 rfl ?_
  refine ⟨cx.ext, ?_⟩
  have hrow := cx.head
  simp only [Nat.zero_add, List.nil_append] at hrow
  exact pl_of_row hrow (fun b hb => hb.1.2) hps7

set_option maxRecDepth 10000 in
theorem c31 (E : V → V → Bool) (hE : ∀ x y, E x y = true ↔ canon x = canon y) (a b : V) (ra rb : List Value) (w0 : World) (hva : Val w0 a ra) (hvb : Val w0 b rb) (hoa : okd 48 a) (hob : okd 48 b) (hfa1 : Fine a) (hfb : Fine b) (hnb : (dfr E 48 [] a b).length ≤ 1048576) : Fc Try.prog 31 [.agg ra.toArray, .agg rb.toArray] w0 (fun x w' => Pl w' x (dfr E 48 [] a b)) := by
  refine ret_enter Try.func31 rfl Try.ntmps31 rfl ?_
  have cx := Ctx.start w0
  refine wp_seq ?_
  refine wp_region_lit ?_
  refine s_box cx rfl rfl rfl rfl rfl ?_; intro b2 w cx hb2 hw2
  refine s_box cx rfl rfl rfl rfl rfl ?_; intro b3 w cx hb3 hw3
  refine s_val rfl rfl (v_assign rfl rfl) ?_
  refine wpList_nil ?_
  refine wp_seq ?_
  refine wp_region_lit ?_
  refine s_val rfl rfl (v_load rfl rfl Try.underlying33 rfl sz33 (cx.row 1 rfl) hva.len) ?_
  refine s_val rfl rfl (v_load rfl rfl Try.underlying33 rfl sz33 (cx.row 0 rfl) hvb.len) ?_
  refine s_fn cx (c59 E hE 48 [] _ a b _ _ (fun b => b < w.heap.size) _ (fun _ h => h) PthA.nil (hva.up cx.ext) (hvb.up cx.ext) hoa hob hfa1 hfb (by simp) (by omega) hnb) Try.func59 rfl rfl rfl rfl rfl rfl ?_; intro q7 w cx hw7 hp7
  obtain ⟨cs7, hro7, hps7⟩ := hp7
  refine s_val rfl rfl (v_assign rfl rfl) ?_
  refine wpList_nil ?_
  refine wp_ret ?_
  refine ret_tmp Try.results31 rfl ?_
  exact ⟨cx.ext, pl_of_row hro7 (fun b hb => hb.1.elim (fun h => Nat.lt_of_lt_of_le h hw7.size) (fun h => h.2)) hps7⟩

set_option maxRecDepth 10000 in
set_option maxHeartbeats 6400000 in
theorem c7 (av bv : V) (ra rb : List Value) (w0 : World) (ha : Val w0 av ra) (hb : Val w0 bv rb) (hfa : Fine av) (hfb : Fine bv) : Fc Try.prog 7 [.agg ra.toArray, .agg rb.toArray] w0 (IsB fun b => b = true) := by
  obtain ⟨E, hE⟩ := classic_eqB
  refine ret_enter Try.func7 rfl Try.ntmps7 rfl ?_
  have cx := Ctx.start w0
  refine wp_seq ?_
  refine wp_region_lit ?_
  refine s_box cx rfl rfl rfl rfl rfl ?_; intro b2 w cx hb2 hw2
  refine s_box cx rfl rfl rfl rfl rfl ?_; intro b3 w cx hb3 hw3
  refine s_val rfl rfl (v_assign rfl rfl) ?_
  refine wpList_nil ?_
  refine wp_seq ?_
  refine w_ord cx (cx.pick2 1 0 rfl rfl rfl) mixed [(0, 5)] #[true, false, false, false, false, false, false, false, false, false, false, false, false, false, false, false, false, false] (by kernel_rfl) (by kernel_rfl) (by kernel_rfl) (by kernel_rfl) ?_
  refine pu_one rfl (wnt_none rfl) (fun w cx => v_load rfl rfl Try.underlying33 rfl sz33 (cx.row 0 rfl) ha.len) ?_
  refine pu_nil ?_; intro w cx hwD1
  refine x_one (i := 1) (by kernel_rfl) rfl ?_
  refine s_fnB cx (c17 _ _ _ (ha.up cx.ext) hfa) Try.func17 rfl rfl rfl rfl rfl rfl ?_; intro q6 w cx hw6 hp6
  refine x_next ⟨.inr (by kernel_rfl), ?_⟩
  refine x_one (i := 2) (by kernel_rfl) rfl ?_
  refine s_val rfl rfl (v_not rfl rfl) ?_
  refine x_next ⟨.inr (by kernel_rfl), ?_⟩
  refine x_one (i := 3) (by kernel_rfl) rfl ?_
  refine s_val rfl rfl (v_move rfl rfl) ?_
  refine x_next ⟨.inr (by kernel_rfl), ?_⟩
  refine x_one (i := 4) (by kernel_rfl) rfl ?_
  refine s_gval rfl rfl rfl (by first | exact w_ff rfl | exact w_gf rfl) (fun hc => v_load rfl rfl Try.underlying33 rfl sz33 (cx.row 0 rfl) hb.len) ?_
  refine x_next ⟨.inr (by kernel_rfl), ?_⟩
  refine x_one (i := 5) (by kernel_rfl) rfl ?_
  refine s_gfnB cx rfl rfl rfl (by first | exact w_ff rfl | exact w_gf rfl) (fun hc => c17 _ _ _ (hb.up cx.ext) hfb) Try.func17 rfl rfl rfl (fun hc => (cons_eq (gve hc rfl) rfl)) ?_; intro q10 w cx hw10 hp10
  refine x_next ⟨.inr (by kernel_rfl), ?_⟩
  refine x_one (i := 6) (by kernel_rfl) rfl ?_
  refine s_gval rfl rfl rfl (by first | exact w_ff rfl | exact w_gf rfl) (fun hc => v_not rfl (by first | exact gve hc rfl | exact gve (and_l hc) rfl | exact gve (and_l (and_l hc)) rfl | rfl)) ?_
  refine x_next ⟨.inr (by kernel_rfl), ?_⟩
  refine x_one (i := 7) (by kernel_rfl) rfl ?_
  refine s_val rfl rfl (v_or rfl rfl rfl rfl) ?_
  refine x_next ⟨.inr (by kernel_rfl), ?_⟩
  refine x_one (i := 8) (by kernel_rfl) rfl ?_
  refine s_val rfl rfl (v_move rfl rfl) ?_
  refine x_next ⟨.inr (by kernel_rfl), ?_⟩
  refine x_four (i := 9) (j := 10) (m := 12) (n4 := 13) (by kernel_rfl) rfl rfl rfl rfl ?_ ?_ ?_ ?_
  · skip
    refine s_gval rfl rfl rfl (by first | exact w_ff rfl | exact w_gf rfl) (fun hc => v_load rfl rfl Try.underlying33 rfl sz33 (cx.row 1 rfl) ha.len) ?_
    refine x_next ⟨.inr (by kernel_rfl), ?_⟩
    refine x_three (i := 10) (j := 12) (m := 13) (by kernel_rfl) rfl rfl rfl ?_ ?_ ?_
    · skip
      refine s_gval rfl rfl rfl (by first | exact w_ff rfl | exact w_gf rfl) (fun hc => v_load rfl rfl Try.underlying33 rfl sz33 (cx.row 0 rfl) hb.len) ?_
      refine x_next ⟨.inr (by kernel_rfl), ?_⟩
      refine x_three (i := 11) (j := 12) (m := 13) (by kernel_rfl) rfl rfl rfl ?_ ?_ ?_
      · skip
        refine s_gfn cx rfl rfl rfl (by first | exact w_ff rfl | exact w_gf rfl) (fun hc => c30 E hE av bv _ _ _ (ha.up cx.ext) (hb.up cx.ext) (okv_of (hp6 (by cases q6 <;> first | rfl | (simp at hc)))).ok (okv_of (hp10 (by cases q6 <;> first | rfl | (simp at hc)) (by cases q6 <;> cases q10 <;> first | rfl | (simp at hc)))).ok hfa hfb (by have h1 := dfr_len (E := E) 48 [] av bv; have h2 := (okv_of (hp6 (by cases q6 <;> first | rfl | (simp at hc)))).sz48; have h3 := (okv_of (hp6 (by cases q6 <;> first | rfl | (simp at hc)))).sz; omega)) Try.func30 rfl rfl rfl (fun hc => cons_eq (gve hc rfl) (cons_eq (gve hc rfl) rfl)) ?_; intro q16 w cx hw16 hp16
        refine x_next ⟨.inr (by kernel_rfl), ?_⟩
        refine x_two (i := 12) (j := 13) (by kernel_rfl) rfl rfl ?_ ?_
        · skip
          refine s_gval rfl rfl rfl (by first | exact w_ff rfl | exact w_gf rfl) (fun hc => v_load rfl rfl Try.underlying33 rfl sz33 (cx.row 1 rfl) ha.len) ?_
          refine x_next ⟨.inr (by kernel_rfl), ?_⟩
          refine x_one (i := 13) (by kernel_rfl) rfl ?_
          refine s_gval rfl rfl rfl (by first | exact w_ff rfl | exact w_gf rfl) (fun hc => v_load rfl rfl Try.underlying33 rfl sz33 (cx.row 0 rfl) hb.len) ?_
          refine x_next ⟨.inr (by kernel_rfl), ?_⟩
          refine x_one (i := 14) (by kernel_rfl) rfl ?_
          refine s_gfn cx rfl rfl rfl (by first | exact w_ff rfl | exact w_gf rfl) (fun hc => c31 E hE av bv _ _ _ (ha.up cx.ext) (hb.up cx.ext) (okv_of (hp6 (by cases q6 <;> first | rfl | (simp at hc)))).ok (okv_of (hp10 (by cases q6 <;> first | rfl | (simp at hc)) (by cases q6 <;> cases q10 <;> first | rfl | (simp at hc)))).ok hfa hfb (by have h1 := dfr_len (E := E) 48 [] av bv; have h2 := (okv_of (hp6 (by cases q6 <;> first | rfl | (simp at hc)))).sz48; have h3 := (okv_of (hp6 (by cases q6 <;> first | rfl | (simp at hc)))).sz; omega)) Try.func31 rfl rfl rfl (fun hc => cons_eq (gve hc rfl) (cons_eq (gve hc rfl) rfl)) ?_; intro q19 w cx hw19 hp19
          replace hp16 := fun hc => (hp16 hc).up hw19
          refine x_next ⟨.inr (by kernel_rfl), ?_⟩
          refine x_one (i := 15) (by kernel_rfl) rfl ?_
          refine s_gfnB cx rfl rfl rfl (by first | exact w_ff rfl | exact w_gf rfl) (fun hc => c29p (dfr E 48 [] av bv) _ _ _ (hp16 hc) (hp19 hc) (by have h1 := dfr_len (E := E) 48 [] av bv; have h2 := (okv_of (hp6 (by cases q6 <;> first | rfl | (simp at hc)))).sz48; have h3 := (okv_of (hp6 (by cases q6 <;> first | rfl | (simp at hc)))).sz; omega) (fun p hp => by have := dfr_depth _ _ _ _ _ hp; simp at this; omega)) Try.func29 rfl rfl rfl (fun hc => cons_eq (gve hc rfl) (cons_eq (gve hc rfl) rfl)) ?_; intro q20 w cx hw20 hp20
          refine x_next ⟨.inr (by kernel_rfl), ?_⟩
          refine x_one (i := 16) (by kernel_rfl) rfl ?_
          refine s_val rfl rfl (v_or rfl rfl rfl rfl) ?_
          refine x_next ⟨.inr (by kernel_rfl), ?_⟩
          refine x_one (i := 17) (by kernel_rfl) rfl ?_
          refine s_val rfl rfl (v_assign rfl rfl) ?_
          refine x_next ⟨.inr (by kernel_rfl), ?_⟩
          refine x_done (by kernel_rfl) ?_
          refine wp_ret ?_
          refine ret_tmp Try.results7 rfl ?_
          refine ⟨cx.ext, _, rfl, ?_⟩
          show ((!q6 || !q10) || q20) = true
          cases hh : (!q6 || !q10) with
          | true => rfl
          | false => simpa using hp20 (by rw [hh]; rfl)
        · skip
          refine s_gval rfl rfl rfl (by first | exact w_ff rfl | exact w_gf rfl) (fun hc => v_load rfl rfl Try.underlying33 rfl sz33 (cx.row 0 rfl) hb.len) ?_
          refine x_next ⟨.inr (by kernel_rfl), ?_⟩
          refine x_one (i := 12) (by kernel_rfl) rfl ?_
          refine s_gval rfl rfl rfl (by first | exact w_ff rfl | exact w_gf rfl) (fun hc => v_load rfl rfl Try.underlying33 rfl sz33 (cx.row 1 rfl) ha.len) ?_
          refine x_next ⟨.inr (by kernel_rfl), ?_⟩
          refine x_one (i := 14) (by kernel_rfl) rfl ?_
          refine s_gfn cx rfl rfl rfl (by first | exact w_ff rfl | exact w_gf rfl) (fun hc => c31 E hE av bv _ _ _ (ha.up cx.ext) (hb.up cx.ext) (okv_of (hp6 (by cases q6 <;> first | rfl | (simp at hc)))).ok (okv_of (hp10 (by cases q6 <;> first | rfl | (simp at hc)) (by cases q6 <;> cases q10 <;> first | rfl | (simp at hc)))).ok hfa hfb (by have h1 := dfr_len (E := E) 48 [] av bv; have h2 := (okv_of (hp6 (by cases q6 <;> first | rfl | (simp at hc)))).sz48; have h3 := (okv_of (hp6 (by cases q6 <;> first | rfl | (simp at hc)))).sz; omega)) Try.func31 rfl rfl rfl (fun hc => cons_eq (gve hc rfl) (cons_eq (gve hc rfl) rfl)) ?_; intro q19 w cx hw19 hp19
          replace hp16 := fun hc => (hp16 hc).up hw19
          refine x_next ⟨.inr (by kernel_rfl), ?_⟩
          refine x_one (i := 15) (by kernel_rfl) rfl ?_
          refine s_gfnB cx rfl rfl rfl (by first | exact w_ff rfl | exact w_gf rfl) (fun hc => c29p (dfr E 48 [] av bv) _ _ _ (hp16 hc) (hp19 hc) (by have h1 := dfr_len (E := E) 48 [] av bv; have h2 := (okv_of (hp6 (by cases q6 <;> first | rfl | (simp at hc)))).sz48; have h3 := (okv_of (hp6 (by cases q6 <;> first | rfl | (simp at hc)))).sz; omega) (fun p hp => by have := dfr_depth _ _ _ _ _ hp; simp at this; omega)) Try.func29 rfl rfl rfl (fun hc => cons_eq (gve hc rfl) (cons_eq (gve hc rfl) rfl)) ?_; intro q20 w cx hw20 hp20
          refine x_next ⟨.inr (by kernel_rfl), ?_⟩
          refine x_one (i := 16) (by kernel_rfl) rfl ?_
          refine s_val rfl rfl (v_or rfl rfl rfl rfl) ?_
          refine x_next ⟨.inr (by kernel_rfl), ?_⟩
          refine x_one (i := 17) (by kernel_rfl) rfl ?_
          refine s_val rfl rfl (v_assign rfl rfl) ?_
          refine x_next ⟨.inr (by kernel_rfl), ?_⟩
          refine x_done (by kernel_rfl) ?_
          refine wp_ret ?_
          refine ret_tmp Try.results7 rfl ?_
          refine ⟨cx.ext, _, rfl, ?_⟩
          show ((!q6 || !q10) || q20) = true
          cases hh : (!q6 || !q10) with
          | true => rfl
          | false => simpa using hp20 (by rw [hh]; rfl)
      · skip
        refine s_gval rfl rfl rfl (by first | exact w_ff rfl | exact w_gf rfl) (fun hc => v_load rfl rfl Try.underlying33 rfl sz33 (cx.row 1 rfl) ha.len) ?_
        refine x_next ⟨.inr (by kernel_rfl), ?_⟩
        refine x_two (i := 11) (j := 13) (by kernel_rfl) rfl rfl ?_ ?_
        · skip
          refine s_gfn cx rfl rfl rfl (by first | exact w_ff rfl | exact w_gf rfl) (fun hc => c30 E hE av bv _ _ _ (ha.up cx.ext) (hb.up cx.ext) (okv_of (hp6 (by cases q6 <;> first | rfl | (simp at hc)))).ok (okv_of (hp10 (by cases q6 <;> first | rfl | (simp at hc)) (by cases q6 <;> cases q10 <;> first | rfl | (simp at hc)))).ok hfa hfb (by have h1 := dfr_len (E := E) 48 [] av bv; have h2 := (okv_of (hp6 (by cases q6 <;> first | rfl | (simp at hc)))).sz48; have h3 := (okv_of (hp6 (by cases q6 <;> first | rfl | (simp at hc)))).sz; omega)) Try.func30 rfl rfl rfl (fun hc => cons_eq (gve hc rfl) (cons_eq (gve hc rfl) rfl)) ?_; intro q16 w cx hw16 hp16
          refine x_next ⟨.inr (by kernel_rfl), ?_⟩
          refine x_one (i := 13) (by kernel_rfl) rfl ?_
          refine s_gval rfl rfl rfl (by first | exact w_ff rfl | exact w_gf rfl) (fun hc => v_load rfl rfl Try.underlying33 rfl sz33 (cx.row 0 rfl) hb.len) ?_
          refine x_next ⟨.inr (by kernel_rfl), ?_⟩
          refine x_one (i := 14) (by kernel_rfl) rfl ?_
          refine s_gfn cx rfl rfl rfl (by first | exact w_ff rfl | exact w_gf rfl) (fun hc => c31 E hE av bv _ _ _ (ha.up cx.ext) (hb.up cx.ext) (okv_of (hp6 (by cases q6 <;> first | rfl | (simp at hc)))).ok (okv_of (hp10 (by cases q6 <;> first | rfl | (simp at hc)) (by cases q6 <;> cases q10 <;> first | rfl | (simp at hc)))).ok hfa hfb (by have h1 := dfr_len (E := E) 48 [] av bv; have h2 := (okv_of (hp6 (by cases q6 <;> first | rfl | (simp at hc)))).sz48; have h3 := (okv_of (hp6 (by cases q6 <;> first | rfl | (simp at hc)))).sz; omega)) Try.func31 rfl rfl rfl (fun hc => cons_eq (gve hc rfl) (cons_eq (gve hc rfl) rfl)) ?_; intro q19 w cx hw19 hp19
          replace hp16 := fun hc => (hp16 hc).up hw19
          refine x_next ⟨.inr (by kernel_rfl), ?_⟩
          refine x_one (i := 15) (by kernel_rfl) rfl ?_
          refine s_gfnB cx rfl rfl rfl (by first | exact w_ff rfl | exact w_gf rfl) (fun hc => c29p (dfr E 48 [] av bv) _ _ _ (hp16 hc) (hp19 hc) (by have h1 := dfr_len (E := E) 48 [] av bv; have h2 := (okv_of (hp6 (by cases q6 <;> first | rfl | (simp at hc)))).sz48; have h3 := (okv_of (hp6 (by cases q6 <;> first | rfl | (simp at hc)))).sz; omega) (fun p hp => by have := dfr_depth _ _ _ _ _ hp; simp at this; omega)) Try.func29 rfl rfl rfl (fun hc => cons_eq (gve hc rfl) (cons_eq (gve hc rfl) rfl)) ?_; intro q20 w cx hw20 hp20
          refine x_next ⟨.inr (by kernel_rfl), ?_⟩
          refine x_one (i := 16) (by kernel_rfl) rfl ?_
          refine s_val rfl rfl (v_or rfl rfl rfl rfl) ?_
          refine x_next ⟨.inr (by kernel_rfl), ?_⟩
          refine x_one (i := 17) (by kernel_rfl) rfl ?_
          refine s_val rfl rfl (v_assign rfl rfl) ?_
          refine x_next ⟨.inr (by kernel_rfl), ?_⟩
          refine x_done (by kernel_rfl) ?_
          refine wp_ret ?_
          refine ret_tmp Try.results7 rfl ?_
          refine ⟨cx.ext, _, rfl, ?_⟩
          show ((!q6 || !q10) || q20) = true
          cases hh : (!q6 || !q10) with
          | true => rfl
          | false => simpa using hp20 (by rw [hh]; rfl)
        · skip
          refine s_gval rfl rfl rfl (by first | exact w_ff rfl | exact w_gf rfl) (fun hc => v_load rfl rfl Try.underlying33 rfl sz33 (cx.row 0 rfl) hb.len) ?_
          refine x_next ⟨.inr (by kernel_rfl), ?_⟩
          refine x_one (i := 11) (by kernel_rfl) rfl ?_
          refine s_gfn cx rfl rfl rfl (by first | exact w_ff rfl | exact w_gf rfl) (fun hc => c30 E hE av bv _ _ _ (ha.up cx.ext) (hb.up cx.ext) (okv_of (hp6 (by cases q6 <;> first | rfl | (simp at hc)))).ok (okv_of (hp10 (by cases q6 <;> first | rfl | (simp at hc)) (by cases q6 <;> cases q10 <;> first | rfl | (simp at hc)))).ok hfa hfb (by have h1 := dfr_len (E := E) 48 [] av bv; have h2 := (okv_of (hp6 (by cases q6 <;> first | rfl | (simp at hc)))).sz48; have h3 := (okv_of (hp6 (by cases q6 <;> first | rfl | (simp at hc)))).sz; omega)) Try.func30 rfl rfl rfl (fun hc => cons_eq (gve hc rfl) (cons_eq (gve hc rfl) rfl)) ?_; intro q16 w cx hw16 hp16
          refine x_next ⟨.inr (by kernel_rfl), ?_⟩
          refine x_one (i := 14) (by kernel_rfl) rfl ?_
          refine s_gfn cx rfl rfl rfl (by first | exact w_ff rfl | exact w_gf rfl) (fun hc => c31 E hE av bv _ _ _ (ha.up cx.ext) (hb.up cx.ext) (okv_of (hp6 (by cases q6 <;> first | rfl | (simp at hc)))).ok (okv_of (hp10 (by cases q6 <;> first | rfl | (simp at hc)) (by cases q6 <;> cases q10 <;> first | rfl | (simp at hc)))).ok hfa hfb (by have h1 := dfr_len (E := E) 48 [] av bv; have h2 := (okv_of (hp6 (by cases q6 <;> first | rfl | (simp at hc)))).sz48; have h3 := (okv_of (hp6 (by cases q6 <;> first | rfl | (simp at hc)))).sz; omega)) Try.func31 rfl rfl rfl (fun hc => cons_eq (gve hc rfl) (cons_eq (gve hc rfl) rfl)) ?_; intro q19 w cx hw19 hp19
          replace hp16 := fun hc => (hp16 hc).up hw19
          refine x_next ⟨.inr (by kernel_rfl), ?_⟩
          refine x_one (i := 15) (by kernel_rfl) rfl ?_
          refine s_gfnB cx rfl rfl rfl (by first | exact w_ff rfl | exact w_gf rfl) (fun hc => c29p (dfr E 48 [] av bv) _ _ _ (hp16 hc) (hp19 hc) (by have h1 := dfr_len (E := E) 48 [] av bv; have h2 := (okv_of (hp6 (by cases q6 <;> first | rfl | (simp at hc)))).sz48; have h3 := (okv_of (hp6 (by cases q6 <;> first | rfl | (simp at hc)))).sz; omega) (fun p hp => by have := dfr_depth _ _ _ _ _ hp; simp at this; omega)) Try.func29 rfl rfl rfl (fun hc => cons_eq (gve hc rfl) (cons_eq (gve hc rfl) rfl)) ?_; intro q20 w cx hw20 hp20
          refine x_next ⟨.inr (by kernel_rfl), ?_⟩
          refine x_one (i := 16) (by kernel_rfl) rfl ?_
          refine s_val rfl rfl (v_or rfl rfl rfl rfl) ?_
          refine x_next ⟨.inr (by kernel_rfl), ?_⟩
          refine x_one (i := 17) (by kernel_rfl) rfl ?_
          refine s_val rfl rfl (v_assign rfl rfl) ?_
          refine x_next ⟨.inr (by kernel_rfl), ?_⟩
          refine x_done (by kernel_rfl) ?_
          refine wp_ret ?_
          refine ret_tmp Try.results7 rfl ?_
          refine ⟨cx.ext, _, rfl, ?_⟩
          show ((!q6 || !q10) || q20) = true
          cases hh : (!q6 || !q10) with
          | true => rfl
          | false => simpa using hp20 (by rw [hh]; rfl)
      · skip
        refine s_gval rfl rfl rfl (by first | exact w_ff rfl | exact w_gf rfl) (fun hc => v_load rfl rfl Try.underlying33 rfl sz33 (cx.row 0 rfl) hb.len) ?_
        refine x_next ⟨.inr (by kernel_rfl), ?_⟩
        refine x_two (i := 11) (j := 12) (by kernel_rfl) rfl rfl ?_ ?_
        · skip
          refine s_gfn cx rfl rfl rfl (by first | exact w_ff rfl | exact w_gf rfl) (fun hc => c30 E hE av bv _ _ _ (ha.up cx.ext) (hb.up cx.ext) (okv_of (hp6 (by cases q6 <;> first | rfl | (simp at hc)))).ok (okv_of (hp10 (by cases q6 <;> first | rfl | (simp at hc)) (by cases q6 <;> cases q10 <;> first | rfl | (simp at hc)))).ok hfa hfb (by have h1 := dfr_len (E := E) 48 [] av bv; have h2 := (okv_of (hp6 (by cases q6 <;> first | rfl | (simp at hc)))).sz48; have h3 := (okv_of (hp6 (by cases q6 <;> first | rfl | (simp at hc)))).sz; omega)) Try.func30 rfl rfl rfl (fun hc => cons_eq (gve hc rfl) (cons_eq (gve hc rfl) rfl)) ?_; intro q16 w cx hw16 hp16
          refine x_next ⟨.inr (by kernel_rfl), ?_⟩
          refine x_one (i := 12) (by kernel_rfl) rfl ?_
          refine s_gval rfl rfl rfl (by first | exact w_ff rfl | exact w_gf rfl) (fun hc => v_load rfl rfl Try.underlying33 rfl sz33 (cx.row 1 rfl) ha.len) ?_
          refine x_next ⟨.inr (by kernel_rfl), ?_⟩
          refine x_one (i := 14) (by kernel_rfl) rfl ?_
          refine s_gfn cx rfl rfl rfl (by first | exact w_ff rfl | exact w_gf rfl) (fun hc => c31 E hE av bv _ _ _ (ha.up cx.ext) (hb.up cx.ext) (okv_of (hp6 (by cases q6 <;> first | rfl | (simp at hc)))).ok (okv_of (hp10 (by cases q6 <;> first | rfl | (simp at hc)) (by cases q6 <;> cases q10 <;> first | rfl | (simp at hc)))).ok hfa hfb (by have h1 := dfr_len (E := E) 48 [] av bv; have h2 := (okv_of (hp6 (by cases q6 <;> first | rfl | (simp at hc)))).sz48; have h3 := (okv_of (hp6 (by cases q6 <;> first | rfl | (simp at hc)))).sz; omega)) Try.func31 rfl rfl rfl (fun hc => cons_eq (gve hc rfl) (cons_eq (gve hc rfl) rfl)) ?_; intro q19 w cx hw19 hp19
          replace hp16 := fun hc => (hp16 hc).up hw19
          refine x_next ⟨.inr (by kernel_rfl), ?_⟩
          refine x_one (i := 15) (by kernel_rfl) rfl ?_
          refine s_gfnB cx rfl rfl rfl (by first | exact w_ff rfl | exact w_gf rfl) (fun hc => c29p (dfr E 48 [] av bv) _ _ _ (hp16 hc) (hp19 hc) (by have h1 := dfr_len (E := E) 48 [] av bv; have h2 := (okv_of (hp6 (by cases q6 <;> first | rfl | (simp at hc)))).sz48; have h3 := (okv_of (hp6 (by cases q6 <;> first | rfl | (simp at hc)))).sz; omega) (fun p hp => by have := dfr_depth _ _ _ _ _ hp; simp at this; omega)) Try.func29 rfl rfl rfl (fun hc => cons_eq (gve hc rfl) (cons_eq (gve hc rfl) rfl)) ?_; intro q20 w cx hw20 hp20
          refine x_next ⟨.inr (by kernel_rfl), ?_⟩
          refine x_one (i := 16) (by kernel_rfl) rfl ?_
          refine s_val rfl rfl (v_or rfl rfl rfl rfl) ?_
          refine x_next ⟨.inr (by kernel_rfl), ?_⟩
          refine x_one (i := 17) (by kernel_rfl) rfl ?_
          refine s_val rfl rfl (v_assign rfl rfl) ?_
          refine x_next ⟨.inr (by kernel_rfl), ?_⟩
          refine x_done (by kernel_rfl) ?_
          refine wp_ret ?_
          refine ret_tmp Try.results7 rfl ?_
          refine ⟨cx.ext, _, rfl, ?_⟩
          show ((!q6 || !q10) || q20) = true
          cases hh : (!q6 || !q10) with
          | true => rfl
          | false => simpa using hp20 (by rw [hh]; rfl)
        · skip
          refine s_gval rfl rfl rfl (by first | exact w_ff rfl | exact w_gf rfl) (fun hc => v_load rfl rfl Try.underlying33 rfl sz33 (cx.row 1 rfl) ha.len) ?_
          refine x_next ⟨.inr (by kernel_rfl), ?_⟩
          refine x_one (i := 11) (by kernel_rfl) rfl ?_
          refine s_gfn cx rfl rfl rfl (by first | exact w_ff rfl | exact w_gf rfl) (fun hc => c30 E hE av bv _ _ _ (ha.up cx.ext) (hb.up cx.ext) (okv_of (hp6 (by cases q6 <;> first | rfl | (simp at hc)))).ok (okv_of (hp10 (by cases q6 <;> first | rfl | (simp at hc)) (by cases q6 <;> cases q10 <;> first | rfl | (simp at hc)))).ok hfa hfb (by have h1 := dfr_len (E := E) 48 [] av bv; have h2 := (okv_of (hp6 (by cases q6 <;> first | rfl | (simp at hc)))).sz48; have h3 := (okv_of (hp6 (by cases q6 <;> first | rfl | (simp at hc)))).sz; omega)) Try.func30 rfl rfl rfl (fun hc => cons_eq (gve hc rfl) (cons_eq (gve hc rfl) rfl)) ?_; intro q16 w cx hw16 hp16
          refine x_next ⟨.inr (by kernel_rfl), ?_⟩
          refine x_one (i := 14) (by kernel_rfl) rfl ?_
          refine s_gfn cx rfl rfl rfl (by first | exact w_ff rfl | exact w_gf rfl) (fun hc => c31 E hE av bv _ _ _ (ha.up cx.ext) (hb.up cx.ext) (okv_of (hp6 (by cases q6 <;> first | rfl | (simp at hc)))).ok (okv_of (hp10 (by cases q6 <;> first | rfl | (simp at hc)) (by cases q6 <;> cases q10 <;> first | rfl | (simp at hc)))).ok hfa hfb (by have h1 := dfr_len (E := E) 48 [] av bv; have h2 := (okv_of (hp6 (by cases q6 <;> first | rfl | (simp at hc)))).sz48; have h3 := (okv_of (hp6 (by cases q6 <;> first | rfl | (simp at hc)))).sz; omega)) Try.func31 rfl rfl rfl (fun hc => cons_eq (gve hc rfl) (cons_eq (gve hc rfl) rfl)) ?_; intro q19 w cx hw19 hp19
          replace hp16 := fun hc => (hp16 hc).up hw19
          refine x_next ⟨.inr (by kernel_rfl), ?_⟩
          refine x_one (i := 15) (by kernel_rfl) rfl ?_
          refine s_gfnB cx rfl rfl rfl (by first | exact w_ff rfl | exact w_gf rfl) (fun hc => c29p (dfr E 48 [] av bv) _ _ _ (hp16 hc) (hp19 hc) (by have h1 := dfr_len (E := E) 48 [] av bv; have h2 := (okv_of (hp6 (by cases q6 <;> first | rfl | (simp at hc)))).sz48; have h3 := (okv_of (hp6 (by cases q6 <;> first | rfl | (simp at hc)))).sz; omega) (fun p hp => by have := dfr_depth _ _ _ _ _ hp; simp at this; omega)) Try.func29 rfl rfl rfl (fun hc => cons_eq (gve hc rfl) (cons_eq (gve hc rfl) rfl)) ?_; intro q20 w cx hw20 hp20
          refine x_next ⟨.inr (by kernel_rfl), ?_⟩
          refine x_one (i := 16) (by kernel_rfl) rfl ?_
          refine s_val rfl rfl (v_or rfl rfl rfl rfl) ?_
          refine x_next ⟨.inr (by kernel_rfl), ?_⟩
          refine x_one (i := 17) (by kernel_rfl) rfl ?_
          refine s_val rfl rfl (v_assign rfl rfl) ?_
          refine x_next ⟨.inr (by kernel_rfl), ?_⟩
          refine x_done (by kernel_rfl) ?_
          refine wp_ret ?_
          refine ret_tmp Try.results7 rfl ?_
          refine ⟨cx.ext, _, rfl, ?_⟩
          show ((!q6 || !q10) || q20) = true
          cases hh : (!q6 || !q10) with
          | true => rfl
          | false => simpa using hp20 (by rw [hh]; rfl)
    · skip
      refine s_gval rfl rfl rfl (by first | exact w_ff rfl | exact w_gf rfl) (fun hc => v_load rfl rfl Try.underlying33 rfl sz33 (cx.row 1 rfl) ha.len) ?_
      refine x_next ⟨.inr (by kernel_rfl), ?_⟩
      refine x_two (i := 10) (j := 13) (by kernel_rfl) rfl rfl ?_ ?_
      · skip
        refine s_gval rfl rfl rfl (by first | exact w_ff rfl | exact w_gf rfl) (fun hc => v_load rfl rfl Try.underlying33 rfl sz33 (cx.row 0 rfl) hb.len) ?_
        refine x_next ⟨.inr (by kernel_rfl), ?_⟩
        refine x_two (i := 11) (j := 13) (by kernel_rfl) rfl rfl ?_ ?_
        · skip
          refine s_gfn cx rfl rfl rfl (by first | exact w_ff rfl | exact w_gf rfl) (fun hc => c30 E hE av bv _ _ _ (ha.up cx.ext) (hb.up cx.ext) (okv_of (hp6 (by cases q6 <;> first | rfl | (simp at hc)))).ok (okv_of (hp10 (by cases q6 <;> first | rfl | (simp at hc)) (by cases q6 <;> cases q10 <;> first | rfl | (simp at hc)))).ok hfa hfb (by have h1 := dfr_len (E := E) 48 [] av bv; have h2 := (okv_of (hp6 (by cases q6 <;> first | rfl | (simp at hc)))).sz48; have h3 := (okv_of (hp6 (by cases q6 <;> first | rfl | (simp at hc)))).sz; omega)) Try.func30 rfl rfl rfl (fun hc => cons_eq (gve hc rfl) (cons_eq (gve hc rfl) rfl)) ?_; intro q16 w cx hw16 hp16
          refine x_next ⟨.inr (by kernel_rfl), ?_⟩
          refine x_one (i := 13) (by kernel_rfl) rfl ?_
          refine s_gval rfl rfl rfl (by first | exact w_ff rfl | exact w_gf rfl) (fun hc => v_load rfl rfl Try.underlying33 rfl sz33 (cx.row 0 rfl) hb.len) ?_
          refine x_next ⟨.inr (by kernel_rfl), ?_⟩
          refine x_one (i := 14) (by kernel_rfl) rfl ?_
          refine s_gfn cx rfl rfl rfl (by first | exact w_ff rfl | exact w_gf rfl) (fun hc => c31 E hE av bv _ _ _ (ha.up cx.ext) (hb.up cx.ext) (okv_of (hp6 (by cases q6 <;> first | rfl | (simp at hc)))).ok (okv_of (hp10 (by cases q6 <;> first | rfl | (simp at hc)) (by cases q6 <;> cases q10 <;> first | rfl | (simp at hc)))).ok hfa hfb (by have h1 := dfr_len (E := E) 48 [] av bv; have h2 := (okv_of (hp6 (by cases q6 <;> first | rfl | (simp at hc)))).sz48; have h3 := (okv_of (hp6 (by cases q6 <;> first | rfl | (simp at hc)))).sz; omega)) Try.func31 rfl rfl rfl (fun hc => cons_eq (gve hc rfl) (cons_eq (gve hc rfl) rfl)) ?_; intro q19 w cx hw19 hp19
          replace hp16 := fun hc => (hp16 hc).up hw19
          refine x_next ⟨.inr (by kernel_rfl), ?_⟩
          refine x_one (i := 15) (by kernel_rfl) rfl ?_
          refine s_gfnB cx rfl rfl rfl (by first | exact w_ff rfl | exact w_gf rfl) (fun hc => c29p (dfr E 48 [] av bv) _ _ _ (hp16 hc) (hp19 hc) (by have h1 := dfr_len (E := E) 48 [] av bv; have h2 := (okv_of (hp6 (by cases q6 <;> first | rfl | (simp at hc)))).sz48; have h3 := (okv_of (hp6 (by cases q6 <;> first | rfl | (simp at hc)))).sz; omega) (fun p hp => by have := dfr_depth _ _ _ _ _ hp; simp at this; omega)) Try.func29 rfl rfl rfl (fun hc => cons_eq (gve hc rfl) (cons_eq (gve hc rfl) rfl)) ?_; intro q20 w cx hw20 hp20
          refine x_next ⟨.inr (by kernel_rfl), ?_⟩
          refine x_one (i := 16) (by kernel_rfl) rfl ?_
          refine s_val rfl rfl (v_or rfl rfl rfl rfl) ?_
          refine x_next ⟨.inr (by kernel_rfl), ?_⟩
          refine x_one (i := 17) (by kernel_rfl) rfl ?_
          refine s_val rfl rfl (v_assign rfl rfl) ?_
          refine x_next ⟨.inr (by kernel_rfl), ?_⟩
          refine x_done (by kernel_rfl) ?_
          refine wp_ret ?_
          refine ret_tmp Try.results7 rfl ?_
          refine ⟨cx.ext, _, rfl, ?_⟩
          show ((!q6 || !q10) || q20) = true
          cases hh : (!q6 || !q10) with
          | true => rfl
          | false => simpa using hp20 (by rw [hh]; rfl)
        · skip
          refine s_gval rfl rfl rfl (by first | exact w_ff rfl | exact w_gf rfl) (fun hc => v_load rfl rfl Try.underlying33 rfl sz33 (cx.row 0 rfl) hb.len) ?_
          refine x_next ⟨.inr (by kernel_rfl), ?_⟩
          refine x_one (i := 11) (by kernel_rfl) rfl ?_
          refine s_gfn cx rfl rfl rfl (by first | exact w_ff rfl | exact w_gf rfl) (fun hc => c30 E hE av bv _ _ _ (ha.up cx.ext) (hb.up cx.ext) (okv_of (hp6 (by cases q6 <;> first | rfl | (simp at hc)))).ok (okv_of (hp10 (by cases q6 <;> first | rfl | (simp at hc)) (by cases q6 <;> cases q10 <;> first | rfl | (simp at hc)))).ok hfa hfb (by have h1 := dfr_len (E := E) 48 [] av bv; have h2 := (okv_of (hp6 (by cases q6 <;> first | rfl | (simp at hc)))).sz48; have h3 := (okv_of (hp6 (by cases q6 <;> first | rfl | (simp at hc)))).sz; omega)) Try.func30 rfl rfl rfl (fun hc => cons_eq (gve hc rfl) (cons_eq (gve hc rfl) rfl)) ?_; intro q16 w cx hw16 hp16
          refine x_next ⟨.inr (by kernel_rfl), ?_⟩
          refine x_one (i := 14) (by kernel_rfl) rfl ?_
          refine s_gfn cx rfl rfl rfl (by first | exact w_ff rfl | exact w_gf rfl) (fun hc => c31 E hE av bv _ _ _ (ha.up cx.ext) (hb.up cx.ext) (okv_of (hp6 (by cases q6 <;> first | rfl | (simp at hc)))).ok (okv_of (hp10 (by cases q6 <;> first | rfl | (simp at hc)) (by cases q6 <;> cases q10 <;> first | rfl | (simp at hc)))).ok hfa hfb (by have h1 := dfr_len (E := E) 48 [] av bv; have h2 := (okv_of (hp6 (by cases q6 <;> first | rfl | (simp at hc)))).sz48; have h3 := (okv_of (hp6 (by cases q6 <;> first | rfl | (simp at hc)))).sz; omega)) Try.func31 rfl rfl rfl (fun hc => cons_eq (gve hc rfl) (cons_eq (gve hc rfl) rfl)) ?_; intro q19 w cx hw19 hp19
          replace hp16 := fun hc => (hp16 hc).up hw19
          refine x_next ⟨.inr (by kernel_rfl), ?_⟩
          refine x_one (i := 15) (by kernel_rfl) rfl ?_
          refine s_gfnB cx rfl rfl rfl (by first | exact w_ff rfl | exact w_gf rfl) (fun hc => c29p (dfr E 48 [] av bv) _ _ _ (hp16 hc) (hp19 hc) (by have h1 := dfr_len (E := E) 48 [] av bv; have h2 := (okv_of (hp6 (by cases q6 <;> first | rfl | (simp at hc)))).sz48; have h3 := (okv_of (hp6 (by cases q6 <;> first | rfl | (simp at hc)))).sz; omega) (fun p hp => by have := dfr_depth _ _ _ _ _ hp; simp at this; omega)) Try.func29 rfl rfl rfl (fun hc => cons_eq (gve hc rfl) (cons_eq (gve hc rfl) rfl)) ?_; intro q20 w cx hw20 hp20
          refine x_next ⟨.inr (by kernel_rfl), ?_⟩
          refine x_one (i := 16) (by kernel_rfl) rfl ?_
          refine s_val rfl rfl (v_or rfl rfl rfl rfl) ?_
          refine x_next ⟨.inr (by kernel_rfl), ?_⟩
          refine x_one (i := 17) (by kernel_rfl) rfl ?_
          refine s_val rfl rfl (v_assign rfl rfl) ?_
          refine x_next ⟨.inr (by kernel_rfl), ?_⟩
          refine x_done (by kernel_rfl) ?_
          refine wp_ret ?_
          refine ret_tmp Try.results7 rfl ?_
          refine ⟨cx.ext, _, rfl, ?_⟩
          show ((!q6 || !q10) || q20) = true
          cases hh : (!q6 || !q10) with
          | true => rfl
          | false => simpa using hp20 (by rw [hh]; rfl)
      · skip
        refine s_gval rfl rfl rfl (by first | exact w_ff rfl | exact w_gf rfl) (fun hc => v_load rfl rfl Try.underlying33 rfl sz33 (cx.row 0 rfl) hb.len) ?_
        refine x_next ⟨.inr (by kernel_rfl), ?_⟩
        refine x_one (i := 10) (by kernel_rfl) rfl ?_
        refine s_gval rfl rfl rfl (by first | exact w_ff rfl | exact w_gf rfl) (fun hc => v_load rfl rfl Try.underlying33 rfl sz33 (cx.row 0 rfl) hb.len) ?_
        refine x_next ⟨.inr (by kernel_rfl), ?_⟩
        refine x_one (i := 11) (by kernel_rfl) rfl ?_
        refine s_gfn cx rfl rfl rfl (by first | exact w_ff rfl | exact w_gf rfl) (fun hc => c30 E hE av bv _ _ _ (ha.up cx.ext) (hb.up cx.ext) (okv_of (hp6 (by cases q6 <;> first | rfl | (simp at hc)))).ok (okv_of (hp10 (by cases q6 <;> first | rfl | (simp at hc)) (by cases q6 <;> cases q10 <;> first | rfl | (simp at hc)))).ok hfa hfb (by have h1 := dfr_len (E := E) 48 [] av bv; have h2 := (okv_of (hp6 (by cases q6 <;> first | rfl | (simp at hc)))).sz48; have h3 := (okv_of (hp6 (by cases q6 <;> first | rfl | (simp at hc)))).sz; omega)) Try.func30 rfl rfl rfl (fun hc => cons_eq (gve hc rfl) (cons_eq (gve hc rfl) rfl)) ?_; intro q16 w cx hw16 hp16
        refine x_next ⟨.inr (by kernel_rfl), ?_⟩
        refine x_one (i := 14) (by kernel_rfl) rfl ?_
        refine s_gfn cx rfl rfl rfl (by first | exact w_ff rfl | exact w_gf rfl) (fun hc => c31 E hE av bv _ _ _ (ha.up cx.ext) (hb.up cx.ext) (okv_of (hp6 (by cases q6 <;> first | rfl | (simp at hc)))).ok (okv_of (hp10 (by cases q6 <;> first | rfl | (simp at hc)) (by cases q6 <;> cases q10 <;> first | rfl | (simp at hc)))).ok hfa hfb (by have h1 := dfr_len (E := E) 48 [] av bv; have h2 := (okv_of (hp6 (by cases q6 <;> first | rfl | (simp at hc)))).sz48; have h3 := (okv_of (hp6 (by cases q6 <;> first | rfl | (simp at hc)))).sz; omega)) Try.func31 rfl rfl rfl (fun hc => cons_eq (gve hc rfl) (cons_eq (gve hc rfl) rfl)) ?_; intro q19 w cx hw19 hp19
        replace hp16 := fun hc => (hp16 hc).up hw19
        refine x_next ⟨.inr (by kernel_rfl), ?_⟩
        refine x_one (i := 15) (by kernel_rfl) rfl ?_
        refine s_gfnB cx rfl rfl rfl (by first | exact w_ff rfl | exact w_gf rfl) (fun hc => c29p (dfr E 48 [] av bv) _ _ _ (hp16 hc) (hp19 hc) (by have h1 := dfr_len (E := E) 48 [] av bv; have h2 := (okv_of (hp6 (by cases q6 <;> first | rfl | (simp at hc)))).sz48; have h3 := (okv_of (hp6 (by cases q6 <;> first | rfl | (simp at hc)))).sz; omega) (fun p hp => by have := dfr_depth _ _ _ _ _ hp; simp at this; omega)) Try.func29 rfl rfl rfl (fun hc => cons_eq (gve hc rfl) (cons_eq (gve hc rfl) rfl)) ?_; intro q20 w cx hw20 hp20
        refine x_next ⟨.inr (by kernel_rfl), ?_⟩
        refine x_one (i := 16) (by kernel_rfl) rfl ?_
        refine s_val rfl rfl (v_or rfl rfl rfl rfl) ?_
        refine x_next ⟨.inr (by kernel_rfl), ?_⟩
        refine x_one (i := 17) (by kernel_rfl) rfl ?_
        refine s_val rfl rfl (v_assign rfl rfl) ?_
        refine x_next ⟨.inr (by kernel_rfl), ?_⟩
        refine x_done (by kernel_rfl) ?_
        refine wp_ret ?_
        refine ret_tmp Try.results7 rfl ?_
        refine ⟨cx.ext, _, rfl, ?_⟩
        show ((!q6 || !q10) || q20) = true
        cases hh : (!q6 || !q10) with
        | true => rfl
        | false => simpa using hp20 (by rw [hh]; rfl)
    · skip
      refine s_gval rfl rfl rfl (by first | exact w_ff rfl | exact w_gf rfl) (fun hc => v_load rfl rfl Try.underlying33 rfl sz33 (cx.row 0 rfl) hb.len) ?_
      refine x_next ⟨.inr (by kernel_rfl), ?_⟩
      refine x_two (i := 10) (j := 12) (by kernel_rfl) rfl rfl ?_ ?_
      · skip
        refine s_gval rfl rfl rfl (by first | exact w_ff rfl | exact w_gf rfl) (fun hc => v_load rfl rfl Try.underlying33 rfl sz33 (cx.row 0 rfl) hb.len) ?_
        refine x_next ⟨.inr (by kernel_rfl), ?_⟩
        refine x_two (i := 11) (j := 12) (by kernel_rfl) rfl rfl ?_ ?_
        · skip
          refine s_gfn cx rfl rfl rfl (by first | exact w_ff rfl | exact w_gf rfl) (fun hc => c30 E hE av bv _ _ _ (ha.up cx.ext) (hb.up cx.ext) (okv_of (hp6 (by cases q6 <;> first | rfl | (simp at hc)))).ok (okv_of (hp10 (by cases q6 <;> first | rfl | (simp at hc)) (by cases q6 <;> cases q10 <;> first | rfl | (simp at hc)))).ok hfa hfb (by have h1 := dfr_len (E := E) 48 [] av bv; have h2 := (okv_of (hp6 (by cases q6 <;> first | rfl | (simp at hc)))).sz48; have h3 := (okv_of (hp6 (by cases q6 <;> first | rfl | (simp at hc)))).sz; omega)) Try.func30 rfl rfl rfl (fun hc => cons_eq (gve hc rfl) (cons_eq (gve hc rfl) rfl)) ?_; intro q16 w cx hw16 hp16
          refine x_next ⟨.inr (by kernel_rfl), ?_⟩
          refine x_one (i := 12) (by kernel_rfl) rfl ?_
          refine s_gval rfl rfl rfl (by first | exact w_ff rfl | exact w_gf rfl) (fun hc => v_load rfl rfl Try.underlying33 rfl sz33 (cx.row 1 rfl) ha.len) ?_
          refine x_next ⟨.inr (by kernel_rfl), ?_⟩
          refine x_one (i := 14) (by kernel_rfl) rfl ?_
          refine s_gfn cx rfl rfl rfl (by first | exact w_ff rfl | exact w_gf rfl) (fun hc => c31 E hE av bv _ _ _ (ha.up cx.ext) (hb.up cx.ext) (okv_of (hp6 (by cases q6 <;> first | rfl | (simp at hc)))).ok (okv_of (hp10 (by cases q6 <;> first | rfl | (simp at hc)) (by cases q6 <;> cases q10 <;> first | rfl | (simp at hc)))).ok hfa hfb (by have h1 := dfr_len (E := E) 48 [] av bv; have h2 := (okv_of (hp6 (by cases q6 <;> first | rfl | (simp at hc)))).sz48; have h3 := (okv_of (hp6 (by cases q6 <;> first | rfl | (simp at hc)))).sz; omega)) Try.func31 rfl rfl rfl (fun hc => cons_eq (gve hc rfl) (cons_eq (gve hc rfl) rfl)) ?_; intro q19 w cx hw19 hp19
          replace hp16 := fun hc => (hp16 hc).up hw19
          refine x_next ⟨.inr (by kernel_rfl), ?_⟩
          refine x_one (i := 15) (by kernel_rfl) rfl ?_
          refine s_gfnB cx rfl rfl rfl (by first | exact w_ff rfl | exact w_gf rfl) (fun hc => c29p (dfr E 48 [] av bv) _ _ _ (hp16 hc) (hp19 hc) (by have h1 := dfr_len (E := E) 48 [] av bv; have h2 := (okv_of (hp6 (by cases q6 <;> first | rfl | (simp at hc)))).sz48; have h3 := (okv_of (hp6 (by cases q6 <;> first | rfl | (simp at hc)))).sz; omega) (fun p hp => by have := dfr_depth _ _ _ _ _ hp; simp at this; omega)) Try.func29 rfl rfl rfl (fun hc => cons_eq (gve hc rfl) (cons_eq (gve hc rfl) rfl)) ?_; intro q20 w cx hw20 hp20
          refine x_next ⟨.inr (by kernel_rfl), ?_⟩
          refine x_one (i := 16) (by kernel_rfl) rfl ?_
          refine s_val rfl rfl (v_or rfl rfl rfl rfl) ?_
          refine x_next ⟨.inr (by kernel_rfl), ?_⟩
          refine x_one (i := 17) (by kernel_rfl) rfl ?_
          refine s_val rfl rfl (v_assign rfl rfl) ?_
          refine x_next ⟨.inr (by kernel_rfl), ?_⟩
          refine x_done (by kernel_rfl) ?_
          refine wp_ret ?_
          refine ret_tmp Try.results7 rfl ?_
          refine ⟨cx.ext, _, rfl, ?_⟩
          show ((!q6 || !q10) || q20) = true
          cases hh : (!q6 || !q10) with
          | true => rfl
          | false => simpa using hp20 (by rw [hh]; rfl)
        · skip
          refine s_gval rfl rfl rfl (by first | exact w_ff rfl | exact w_gf rfl) (fun hc => v_load rfl rfl Try.underlying33 rfl sz33 (cx.row 1 rfl) ha.len) ?_
          refine x_next ⟨.inr (by kernel_rfl), ?_⟩
          refine x_one (i := 11) (by kernel_rfl) rfl ?_
          refine s_gfn cx rfl rfl rfl (by first | exact w_ff rfl | exact w_gf rfl) (fun hc => c30 E hE av bv _ _ _ (ha.up cx.ext) (hb.up cx.ext) (okv_of (hp6 (by cases q6 <;> first | rfl | (simp at hc)))).ok (okv_of (hp10 (by cases q6 <;> first | rfl | (simp at hc)) (by cases q6 <;> cases q10 <;> first | rfl | (simp at hc)))).ok hfa hfb (by have h1 := dfr_len (E := E) 48 [] av bv; have h2 := (okv_of (hp6 (by cases q6 <;> first | rfl | (simp at hc)))).sz48; have h3 := (okv_of (hp6 (by cases q6 <;> first | rfl | (simp at hc)))).sz; omega)) Try.func30 rfl rfl rfl (fun hc => cons_eq (gve hc rfl) (cons_eq (gve hc rfl) rfl)) ?_; intro q16 w cx hw16 hp16
          refine x_next ⟨.inr (by kernel_rfl), ?_⟩
          refine x_one (i := 14) (by kernel_rfl) rfl ?_
          refine s_gfn cx rfl rfl rfl (by first | exact w_ff rfl | exact w_gf rfl) (fun hc => c31 E hE av bv _ _ _ (ha.up cx.ext) (hb.up cx.ext) (okv_of (hp6 (by cases q6 <;> first | rfl | (simp at hc)))).ok (okv_of (hp10 (by cases q6 <;> first | rfl | (simp at hc)) (by cases q6 <;> cases q10 <;> first | rfl | (simp at hc)))).ok hfa hfb (by have h1 := dfr_len (E := E) 48 [] av bv; have h2 := (okv_of (hp6 (by cases q6 <;> first | rfl | (simp at hc)))).sz48; have h3 := (okv_of (hp6 (by cases q6 <;> first | rfl | (simp at hc)))).sz; omega)) Try.func31 rfl rfl rfl (fun hc => cons_eq (gve hc rfl) (cons_eq (gve hc rfl) rfl)) ?_; intro q19 w cx hw19 hp19
          replace hp16 := fun hc => (hp16 hc).up hw19
          refine x_next ⟨.inr (by kernel_rfl), ?_⟩
          refine x_one (i := 15) (by kernel_rfl) rfl ?_
          refine s_gfnB cx rfl rfl rfl (by first | exact w_ff rfl | exact w_gf rfl) (fun hc => c29p (dfr E 48 [] av bv) _ _ _ (hp16 hc) (hp19 hc) (by have h1 := dfr_len (E := E) 48 [] av bv; have h2 := (okv_of (hp6 (by cases q6 <;> first | rfl | (simp at hc)))).sz48; have h3 := (okv_of (hp6 (by cases q6 <;> first | rfl | (simp at hc)))).sz; omega) (fun p hp => by have := dfr_depth _ _ _ _ _ hp; simp at this; omega)) Try.func29 rfl rfl rfl (fun hc => cons_eq (gve hc rfl) (cons_eq (gve hc rfl) rfl)) ?_; intro q20 w cx hw20 hp20
          refine x_next ⟨.inr (by kernel_rfl), ?_⟩
          refine x_one (i := 16) (by kernel_rfl) rfl ?_
          refine s_val rfl rfl (v_or rfl rfl rfl rfl) ?_
          refine x_next ⟨.inr (by kernel_rfl), ?_⟩
          refine x_one (i := 17) (by kernel_rfl) rfl ?_
          refine s_val rfl rfl (v_assign rfl rfl) ?_
          refine x_next ⟨.inr (by kernel_rfl), ?_⟩
          refine x_done (by kernel_rfl) ?_
          refine wp_ret ?_
          refine ret_tmp Try.results7 rfl ?_
          refine ⟨cx.ext, _, rfl, ?_⟩
          show ((!q6 || !q10) || q20) = true
          cases hh : (!q6 || !q10) with
          | true => rfl
          | false => simpa using hp20 (by rw [hh]; rfl)
      · skip
        refine s_gval rfl rfl rfl (by first | exact w_ff rfl | exact w_gf rfl) (fun hc => v_load rfl rfl Try.underlying33 rfl sz33 (cx.row 1 rfl) ha.len) ?_
        refine x_next ⟨.inr (by kernel_rfl), ?_⟩
        refine x_one (i := 10) (by kernel_rfl) rfl ?_
        refine s_gval rfl rfl rfl (by first | exact w_ff rfl | exact w_gf rfl) (fun hc => v_load rfl rfl Try.underlying33 rfl sz33 (cx.row 0 rfl) hb.len) ?_
        refine x_next ⟨.inr (by kernel_rfl), ?_⟩
        refine x_one (i := 11) (by kernel_rfl) rfl ?_
        refine s_gfn cx rfl rfl rfl (by first | exact w_ff rfl | exact w_gf rfl) (fun hc => c30 E hE av bv _ _ _ (ha.up cx.ext) (hb.up cx.ext) (okv_of (hp6 (by cases q6 <;> first | rfl | (simp at hc)))).ok (okv_of (hp10 (by cases q6 <;> first | rfl | (simp at hc)) (by cases q6 <;> cases q10 <;> first | rfl | (simp at hc)))).ok hfa hfb (by have h1 := dfr_len (E := E) 48 [] av bv; have h2 := (okv_of (hp6 (by cases q6 <;> first | rfl | (simp at hc)))).sz48; have h3 := (okv_of (hp6 (by cases q6 <;> first | rfl | (simp at hc)))).sz; omega)) Try.func30 rfl rfl rfl (fun hc => cons_eq (gve hc rfl) (cons_eq (gve hc rfl) rfl)) ?_; intro q16 w cx hw16 hp16
        refine x_next ⟨.inr (by kernel_rfl), ?_⟩
        refine x_one (i := 14) (by kernel_rfl) rfl ?_
        refine s_gfn cx rfl rfl rfl (by first | exact w_ff rfl | exact w_gf rfl) (fun hc => c31 E hE av bv _ _ _ (ha.up cx.ext) (hb.up cx.ext) (okv_of (hp6 (by cases q6 <;> first | rfl | (simp at hc)))).ok (okv_of (hp10 (by cases q6 <;> first | rfl | (simp at hc)) (by cases q6 <;> cases q10 <;> first | rfl | (simp at hc)))).ok hfa hfb (by have h1 := dfr_len (E := E) 48 [] av bv; have h2 := (okv_of (hp6 (by cases q6 <;> first | rfl | (simp at hc)))).sz48; have h3 := (okv_of (hp6 (by cases q6 <;> first | rfl | (simp at hc)))).sz; omega)) Try.func31 rfl rfl rfl (fun hc => cons_eq (gve hc rfl) (cons_eq (gve hc rfl) rfl)) ?_; intro q19 w cx hw19 hp19
        replace hp16 := fun hc => (hp16 hc).up hw19
        refine x_next ⟨.inr (by kernel_rfl), ?_⟩
        refine x_one (i := 15) (by kernel_rfl) rfl ?_
        refine s_gfnB cx rfl rfl rfl (by first | exact w_ff rfl | exact w_gf rfl) (fun hc => c29p (dfr E 48 [] av bv) _ _ _ (hp16 hc) (hp19 hc) (by have h1 := dfr_len (E := E) 48 [] av bv; have h2 := (okv_of (hp6 (by cases q6 <;> first | rfl | (simp at hc)))).sz48; have h3 := (okv_of (hp6 (by cases q6 <;> first | rfl | (simp at hc)))).sz; omega) (fun p hp => by have := dfr_depth _ _ _ _ _ hp; simp at this; omega)) Try.func29 rfl rfl rfl (fun hc => cons_eq (gve hc rfl) (cons_eq (gve hc rfl) rfl)) ?_; intro q20 w cx hw20 hp20
        refine x_next ⟨.inr (by kernel_rfl), ?_⟩
        refine x_one (i := 16) (by kernel_rfl) rfl ?_
        refine s_val rfl rfl (v_or rfl rfl rfl rfl) ?_
        refine x_next ⟨.inr (by kernel_rfl), ?_⟩
        refine x_one (i := 17) (by kernel_rfl) rfl ?_
        refine s_val rfl rfl (v_assign rfl rfl) ?_
        refine x_next ⟨.inr (by kernel_rfl), ?_⟩
        refine x_done (by kernel_rfl) ?_
        refine wp_ret ?_
        refine ret_tmp Try.results7 rfl ?_
        refine ⟨cx.ext, _, rfl, ?_⟩
        show ((!q6 || !q10) || q20) = true
        cases hh : (!q6 || !q10) with
        | true => rfl
        | false => simpa using hp20 (by rw [hh]; rfl)
  · skip
    refine s_gval rfl rfl rfl (by first | exact w_ff rfl | exact w_gf rfl) (fun hc => v_load rfl rfl Try.underlying33 rfl sz33 (cx.row 0 rfl) hb.len) ?_
    refine x_next ⟨.inr (by kernel_rfl), ?_⟩
    refine x_three (i := 9) (j := 12) (m := 13) (by kernel_rfl) rfl rfl rfl ?_ ?_ ?_
    · skip
      refine s_gval rfl rfl rfl (by first | exact w_ff rfl | exact w_gf rfl) (fun hc => v_load rfl rfl Try.underlying33 rfl sz33 (cx.row 1 rfl) ha.len) ?_
      refine x_next ⟨.inr (by kernel_rfl), ?_⟩
      refine x_three (i := 11) (j := 12) (m := 13) (by kernel_rfl) rfl rfl rfl ?_ ?_ ?_
      · skip
        refine s_gfn cx rfl rfl rfl (by first | exact w_ff rfl | exact w_gf rfl) (fun hc => c30 E hE av bv _ _ _ (ha.up cx.ext) (hb.up cx.ext) (okv_of (hp6 (by cases q6 <;> first | rfl | (simp at hc)))).ok (okv_of (hp10 (by cases q6 <;> first | rfl | (simp at hc)) (by cases q6 <;> cases q10 <;> first | rfl | (simp at hc)))).ok hfa hfb (by have h1 := dfr_len (E := E) 48 [] av bv; have h2 := (okv_of (hp6 (by cases q6 <;> first | rfl | (simp at hc)))).sz48; have h3 := (okv_of (hp6 (by cases q6 <;> first | rfl | (simp at hc)))).sz; omega)) Try.func30 rfl rfl rfl (fun hc => cons_eq (gve hc rfl) (cons_eq (gve hc rfl) rfl)) ?_; intro q16 w cx hw16 hp16
        refine x_next ⟨.inr (by kernel_rfl), ?_⟩
        refine x_two (i := 12) (j := 13) (by kernel_rfl) rfl rfl ?_ ?_
        · skip
          refine s_gval rfl rfl rfl (by first | exact w_ff rfl | exact w_gf rfl) (fun hc => v_load rfl rfl Try.underlying33 rfl sz33 (cx.row 1 rfl) ha.len) ?_
          refine x_next ⟨.inr (by kernel_rfl), ?_⟩
          refine x_one (i := 13) (by kernel_rfl) rfl ?_
          refine s_gval rfl rfl rfl (by first | exact w_ff rfl | exact w_gf rfl) (fun hc => v_load rfl rfl Try.underlying33 rfl sz33 (cx.row 0 rfl) hb.len) ?_
          refine x_next ⟨.inr (by kernel_rfl), ?_⟩
          refine x_one (i := 14) (by kernel_rfl) rfl ?_
          refine s_gfn cx rfl rfl rfl (by first | exact w_ff rfl | exact w_gf rfl) (fun hc => c31 E hE av bv _ _ _ (ha.up cx.ext) (hb.up cx.ext) (okv_of (hp6 (by cases q6 <;> first | rfl | (simp at hc)))).ok (okv_of (hp10 (by cases q6 <;> first | rfl | (simp at hc)) (by cases q6 <;> cases q10 <;> first | rfl | (simp at hc)))).ok hfa hfb (by have h1 := dfr_len (E := E) 48 [] av bv; have h2 := (okv_of (hp6 (by cases q6 <;> first | rfl | (simp at hc)))).sz48; have h3 := (okv_of (hp6 (by cases q6 <;> first | rfl | (simp at hc)))).sz; omega)) Try.func31 rfl rfl rfl (fun hc => cons_eq (gve hc rfl) (cons_eq (gve hc rfl) rfl)) ?_; intro q19 w cx hw19 hp19
          replace hp16 := fun hc => (hp16 hc).up hw19
          refine x_next ⟨.inr (by kernel_rfl), ?_⟩
          refine x_one (i := 15) (by kernel_rfl) rfl ?_
          refine s_gfnB cx rfl rfl rfl (by first | exact w_ff rfl | exact w_gf rfl) (fun hc => c29p (dfr E 48 [] av bv) _ _ _ (hp16 hc) (hp19 hc) (by have h1 := dfr_len (E := E) 48 [] av bv; have h2 := (okv_of (hp6 (by cases q6 <;> first | rfl | (simp at hc)))).sz48; have h3 := (okv_of (hp6 (by cases q6 <;> first | rfl | (simp at hc)))).sz; omega) (fun p hp => by have := dfr_depth _ _ _ _ _ hp; simp at this; omega)) Try.func29 rfl rfl rfl (fun hc => cons_eq (gve hc rfl) (cons_eq (gve hc rfl) rfl)) ?_; intro q20 w cx hw20 hp20
          refine x_next ⟨.inr (by kernel_rfl), ?_⟩
          refine x_one (i := 16) (by kernel_rfl) rfl ?_
          refine s_val rfl rfl (v_or rfl rfl rfl rfl) ?_
          refine x_next ⟨.inr (by kernel_rfl), ?_⟩
          refine x_one (i := 17) (by kernel_rfl) rfl ?_
          refine s_val rfl rfl (v_assign rfl rfl) ?_
          refine x_next ⟨.inr (by kernel_rfl), ?_⟩
          refine x_done (by kernel_rfl) ?_
          refine wp_ret ?_
          refine ret_tmp Try.results7 rfl ?_
          refine ⟨cx.ext, _, rfl, ?_⟩
          show ((!q6 || !q10) || q20) = true
          cases hh : (!q6 || !q10) with
          | true => rfl
          | false => simpa using hp20 (by rw [hh]; rfl)
        · skip
          refine s_gval rfl rfl rfl (by first | exact w_ff rfl | exact w_gf rfl) (fun hc => v_load rfl rfl Try.underlying33 rfl sz33 (cx.row 0 rfl) hb.len) ?_
          refine x_next ⟨.inr (by kernel_rfl), ?_⟩
          refine x_one (i := 12) (by kernel_rfl) rfl ?_
          refine s_gval rfl rfl rfl (by first | exact w_ff rfl | exact w_gf rfl) (fun hc => v_load rfl rfl Try.underlying33 rfl sz33 (cx.row 1 rfl) ha.len) ?_
          refine x_next ⟨.inr (by kernel_rfl), ?_⟩
          refine x_one (i := 14) (by kernel_rfl) rfl ?_
          refine s_gfn cx rfl rfl rfl (by first | exact w_ff rfl | exact w_gf rfl) (fun hc => c31 E hE av bv _ _ _ (ha.up cx.ext) (hb.up cx.ext) (okv_of (hp6 (by cases q6 <;> first | rfl | (simp at hc)))).ok (okv_of (hp10 (by cases q6 <;> first | rfl | (simp at hc)) (by cases q6 <;> cases q10 <;> first | rfl | (simp at hc)))).ok hfa hfb (by have h1 := dfr_len (E := E) 48 [] av bv; have h2 := (okv_of (hp6 (by cases q6 <;> first | rfl | (simp at hc)))).sz48; have h3 := (okv_of (hp6 (by cases q6 <;> first | rfl | (simp at hc)))).sz; omega)) Try.func31 rfl rfl rfl (fun hc => cons_eq (gve hc rfl) (cons_eq (gve hc rfl) rfl)) ?_; intro q19 w cx hw19 hp19
          replace hp16 := fun hc => (hp16 hc).up hw19
          refine x_next ⟨.inr (by kernel_rfl), ?_⟩
          refine x_one (i := 15) (by kernel_rfl) rfl ?_
          refine s_gfnB cx rfl rfl rfl (by first | exact w_ff rfl | exact w_gf rfl) (fun hc => c29p (dfr E 48 [] av bv) _ _ _ (hp16 hc) (hp19 hc) (by have h1 := dfr_len (E := E) 48 [] av bv; have h2 := (okv_of (hp6 (by cases q6 <;> first | rfl | (simp at hc)))).sz48; have h3 := (okv_of (hp6 (by cases q6 <;> first | rfl | (simp at hc)))).sz; omega) (fun p hp => by have := dfr_depth _ _ _ _ _ hp; simp at this; omega)) Try.func29 rfl rfl rfl (fun hc => cons_eq (gve hc rfl) (cons_eq (gve hc rfl) rfl)) ?_; intro q20 w cx hw20 hp20
          refine x_next ⟨.inr (by kernel_rfl), ?_⟩
          refine x_one (i := 16) (by kernel_rfl) rfl ?_
          refine s_val rfl rfl (v_or rfl rfl rfl rfl) ?_
          refine x_next ⟨.inr (by kernel_rfl), ?_⟩
          refine x_one (i := 17) (by kernel_rfl) rfl ?_
          refine s_val rfl rfl (v_assign rfl rfl) ?_
          refine x_next ⟨.inr (by kernel_rfl), ?_⟩
          refine x_done (by kernel_rfl) ?_
          refine wp_ret ?_
          refine ret_tmp Try.results7 rfl ?_
          refine ⟨cx.ext, _, rfl, ?_⟩
          show ((!q6 || !q10) || q20) = true
          cases hh : (!q6 || !q10) with
          | true => rfl
          | false => simpa using hp20 (by rw [hh]; rfl)
      · skip
        refine s_gval rfl rfl rfl (by first | exact w_ff rfl | exact w_gf rfl) (fun hc => v_load rfl rfl Try.underlying33 rfl sz33 (cx.row 1 rfl) ha.len) ?_
        refine x_next ⟨.inr (by kernel_rfl), ?_⟩
        refine x_two (i := 11) (j := 13) (by kernel_rfl) rfl rfl ?_ ?_
        · skip
          refine s_gfn cx rfl rfl rfl (by first | exact w_ff rfl | exact w_gf rfl) (fun hc => c30 E hE av bv _ _ _ (ha.up cx.ext) (hb.up cx.ext) (okv_of (hp6 (by cases q6 <;> first | rfl | (simp at hc)))).ok (okv_of (hp10 (by cases q6 <;> first | rfl | (simp at hc)) (by cases q6 <;> cases q10 <;> first | rfl | (simp at hc)))).ok hfa hfb (by have h1 := dfr_len (E := E) 48 [] av bv; have h2 := (okv_of (hp6 (by cases q6 <;> first | rfl | (simp at hc)))).sz48; have h3 := (okv_of (hp6 (by cases q6 <;> first | rfl | (simp at hc)))).sz; omega)) Try.func30 rfl rfl rfl (fun hc => cons_eq (gve hc rfl) (cons_eq (gve hc rfl) rfl)) ?_; intro q16 w cx hw16 hp16
          refine x_next ⟨.inr (by kernel_rfl), ?_⟩
          refine x_one (i := 13) (by kernel_rfl) rfl ?_
          refine s_gval rfl rfl rfl (by first | exact w_ff rfl | exact w_gf rfl) (fun hc => v_load rfl rfl Try.underlying33 rfl sz33 (cx.row 0 rfl) hb.len) ?_
          refine x_next ⟨.inr (by kernel_rfl), ?_⟩
          refine x_one (i := 14) (by kernel_rfl) rfl ?_
          refine s_gfn cx rfl rfl rfl (by first | exact w_ff rfl | exact w_gf rfl) (fun hc => c31 E hE av bv _ _ _ (ha.up cx.ext) (hb.up cx.ext) (okv_of (hp6 (by cases q6 <;> first | rfl | (simp at hc)))).ok (okv_of (hp10 (by cases q6 <;> first | rfl | (simp at hc)) (by cases q6 <;> cases q10 <;> first | rfl | (simp at hc)))).ok hfa hfb (by have h1 := dfr_len (E := E) 48 [] av bv; have h2 := (okv_of (hp6 (by cases q6 <;> first | rfl | (simp at hc)))).sz48; have h3 := (okv_of (hp6 (by cases q6 <;> first | rfl | (simp at hc)))).sz; omega)) Try.func31 rfl rfl rfl (fun hc => cons_eq (gve hc rfl) (cons_eq (gve hc rfl) rfl)) ?_; intro q19 w cx hw19 hp19
          replace hp16 := fun hc => (hp16 hc).up hw19
          refine x_next ⟨.inr (by kernel_rfl), ?_⟩
          refine x_one (i := 15) (by kernel_rfl) rfl ?_
          refine s_gfnB cx rfl rfl rfl (by first | exact w_ff rfl | exact w_gf rfl) (fun hc => c29p (dfr E 48 [] av bv) _ _ _ (hp16 hc) (hp19 hc) (by have h1 := dfr_len (E := E) 48 [] av bv; have h2 := (okv_of (hp6 (by cases q6 <;> first | rfl | (simp at hc)))).sz48; have h3 := (okv_of (hp6 (by cases q6 <;> first | rfl | (simp at hc)))).sz; omega) (fun p hp => by have := dfr_depth _ _ _ _ _ hp; simp at this; omega)) Try.func29 rfl rfl rfl (fun hc => cons_eq (gve hc rfl) (cons_eq (gve hc rfl) rfl)) ?_; intro q20 w cx hw20 hp20
          refine x_next ⟨.inr (by kernel_rfl), ?_⟩
          refine x_one (i := 16) (by kernel_rfl) rfl ?_
          refine s_val rfl rfl (v_or rfl rfl rfl rfl) ?_
          refine x_next ⟨.inr (by kernel_rfl), ?_⟩
          refine x_one (i := 17) (by kernel_rfl) rfl ?_
          refine s_val rfl rfl (v_assign rfl rfl) ?_
          refine x_next ⟨.inr (by kernel_rfl), ?_⟩
          refine x_done (by kernel_rfl) ?_
          refine wp_ret ?_
          refine ret_tmp Try.results7 rfl ?_
          refine ⟨cx.ext, _, rfl, ?_⟩
          show ((!q6 || !q10) || q20) = true
          cases hh : (!q6 || !q10) with
          | true => rfl
          | false => simpa using hp20 (by rw [hh]; rfl)
        · skip
          refine s_gval rfl rfl rfl (by first | exact w_ff rfl | exact w_gf rfl) (fun hc => v_load rfl rfl Try.underlying33 rfl sz33 (cx.row 0 rfl) hb.len) ?_
          refine x_next ⟨.inr (by kernel_rfl), ?_⟩
          refine x_one (i := 11) (by kernel_rfl) rfl ?_
          refine s_gfn cx rfl rfl rfl (by first | exact w_ff rfl | exact w_gf rfl) (fun hc => c30 E hE av bv _ _ _ (ha.up cx.ext) (hb.up cx.ext) (okv_of (hp6 (by cases q6 <;> first | rfl | (simp at hc)))).ok (okv_of (hp10 (by cases q6 <;> first | rfl | (simp at hc)) (by cases q6 <;> cases q10 <;> first | rfl | (simp at hc)))).ok hfa hfb (by have h1 := dfr_len (E := E) 48 [] av bv; have h2 := (okv_of (hp6 (by cases q6 <;> first | rfl | (simp at hc)))).sz48; have h3 := (okv_of (hp6 (by cases q6 <;> first | rfl | (simp at hc)))).sz; omega)) Try.func30 rfl rfl rfl (fun hc => cons_eq (gve hc rfl) (cons_eq (gve hc rfl) rfl)) ?_; intro q16 w cx hw16 hp16
          refine x_next ⟨.inr (by kernel_rfl), ?_⟩
          refine x_one (i := 14) (by kernel_rfl) rfl ?_
          refine s_gfn cx rfl rfl rfl (by first | exact w_ff rfl | exact w_gf rfl) (fun hc => c31 E hE av bv _ _ _ (ha.up cx.ext) (hb.up cx.ext) (okv_of (hp6 (by cases q6 <;> first | rfl | (simp at hc)))).ok (okv_of (hp10 (by cases q6 <;> first | rfl | (simp at hc)) (by cases q6 <;> cases q10 <;> first | rfl | (simp at hc)))).ok hfa hfb (by have h1 := dfr_len (E := E) 48 [] av bv; have h2 := (okv_of (hp6 (by cases q6 <;> first | rfl | (simp at hc)))).sz48; have h3 := (okv_of (hp6 (by cases q6 <;> first | rfl | (simp at hc)))).sz; omega)) Try.func31 rfl rfl rfl (fun hc => cons_eq (gve hc rfl) (cons_eq (gve hc rfl) rfl)) ?_; intro q19 w cx hw19 hp19
          replace hp16 := fun hc => (hp16 hc).up hw19
          refine x_next ⟨.inr (by kernel_rfl), ?_⟩
          refine x_one (i := 15) (by kernel_rfl) rfl ?_
          refine s_gfnB cx rfl rfl rfl (by first | exact w_ff rfl | exact w_gf rfl) (fun hc => c29p (dfr E 48 [] av bv) _ _ _ (hp16 hc) (hp19 hc) (by have h1 := dfr_len (E := E) 48 [] av bv; have h2 := (okv_of (hp6 (by cases q6 <;> first | rfl | (simp at hc)))).sz48; have h3 := (okv_of (hp6 (by cases q6 <;> first | rfl | (simp at hc)))).sz; omega) (fun p hp => by have := dfr_depth _ _ _ _ _ hp; simp at this; omega)) Try.func29 rfl rfl rfl (fun hc => cons_eq (gve hc rfl) (cons_eq (gve hc rfl) rfl)) ?_; intro q20 w cx hw20 hp20
          refine x_next ⟨.inr (by kernel_rfl), ?_⟩
          refine x_one (i := 16) (by kernel_rfl) rfl ?_
          refine s_val rfl rfl (v_or rfl rfl rfl rfl) ?_
          refine x_next ⟨.inr (by kernel_rfl), ?_⟩
          refine x_one (i := 17) (by kernel_rfl) rfl ?_
          refine s_val rfl rfl (v_assign rfl rfl) ?_
          refine x_next ⟨.inr (by kernel_rfl), ?_⟩
          refine x_done (by kernel_rfl) ?_
          refine wp_ret ?_
          refine ret_tmp Try.results7 rfl ?_
          refine ⟨cx.ext, _, rfl, ?_⟩
          show ((!q6 || !q10) || q20) = true
          cases hh : (!q6 || !q10) with
          | true => rfl
          | false => simpa using hp20 (by rw [hh]; rfl)
      · skip
        refine s_gval rfl rfl rfl (by first | exact w_ff rfl | exact w_gf rfl) (fun hc => v_load rfl rfl Try.underlying33 rfl sz33 (cx.row 0 rfl) hb.len) ?_
        refine x_next ⟨.inr (by kernel_rfl), ?_⟩
        refine x_two (i := 11) (j := 12) (by kernel_rfl) rfl rfl ?_ ?_
        · skip
          refine s_gfn cx rfl rfl rfl (by first | exact w_ff rfl | exact w_gf rfl) (fun hc => c30 E hE av bv _ _ _ (ha.up cx.ext) (hb.up cx.ext) (okv_of (hp6 (by cases q6 <;> first | rfl | (simp at hc)))).ok (okv_of (hp10 (by cases q6 <;> first | rfl | (simp at hc)) (by cases q6 <;> cases q10 <;> first | rfl | (simp at hc)))).ok hfa hfb (by have h1 := dfr_len (E := E) 48 [] av bv; have h2 := (okv_of (hp6 (by cases q6 <;> first | rfl | (simp at hc)))).sz48; have h3 := (okv_of (hp6 (by cases q6 <;> first | rfl | (simp at hc)))).sz; omega)) Try.func30 rfl rfl rfl (fun hc => cons_eq (gve hc rfl) (cons_eq (gve hc rfl) rfl)) ?_; intro q16 w cx hw16 hp16
          refine x_next ⟨.inr (by kernel_rfl), ?_⟩
          refine x_one (i := 12) (by kernel_rfl) rfl ?_
          refine s_gval rfl rfl rfl (by first | exact w_ff rfl | exact w_gf rfl) (fun hc => v_load rfl rfl Try.underlying33 rfl sz33 (cx.row 1 rfl) ha.len) ?_
          refine x_next ⟨.inr (by kernel_rfl), ?_⟩
          refine x_one (i := 14) (by kernel_rfl) rfl ?_
          refine s_gfn cx rfl rfl rfl (by first | exact w_ff rfl | exact w_gf rfl) (fun hc => c31 E hE av bv _ _ _ (ha.up cx.ext) (hb.up cx.ext) (okv_of (hp6 (by cases q6 <;> first | rfl | (simp at hc)))).ok (okv_of (hp10 (by cases q6 <;> first | rfl | (simp at hc)) (by cases q6 <;> cases q10 <;> first | rfl | (simp at hc)))).ok hfa hfb (by have h1 := dfr_len (E := E) 48 [] av bv; have h2 := (okv_of (hp6 (by cases q6 <;> first | rfl | (simp at hc)))).sz48; have h3 := (okv_of (hp6 (by cases q6 <;> first | rfl | (simp at hc)))).sz; omega)) Try.func31 rfl rfl rfl (fun hc => cons_eq (gve hc rfl) (cons_eq (gve hc rfl) rfl)) ?_; intro q19 w cx hw19 hp19
          replace hp16 := fun hc => (hp16 hc).up hw19
          refine x_next ⟨.inr (by kernel_rfl), ?_⟩
          refine x_one (i := 15) (by kernel_rfl) rfl ?_
          refine s_gfnB cx rfl rfl rfl (by first | exact w_ff rfl | exact w_gf rfl) (fun hc => c29p (dfr E 48 [] av bv) _ _ _ (hp16 hc) (hp19 hc) (by have h1 := dfr_len (E := E) 48 [] av bv; have h2 := (okv_of (hp6 (by cases q6 <;> first | rfl | (simp at hc)))).sz48; have h3 := (okv_of (hp6 (by cases q6 <;> first | rfl | (simp at hc)))).sz; omega) (fun p hp => by have := dfr_depth _ _ _ _ _ hp; simp at this; omega)) Try.func29 rfl rfl rfl (fun hc => cons_eq (gve hc rfl) (cons_eq (gve hc rfl) rfl)) ?_; intro q20 w cx hw20 hp20
          refine x_next ⟨.inr (by kernel_rfl), ?_⟩
          refine x_one (i := 16) (by kernel_rfl) rfl ?_
          refine s_val rfl rfl (v_or rfl rfl rfl rfl) ?_
          refine x_next ⟨.inr (by kernel_rfl), ?_⟩
          refine x_one (i := 17) (by kernel_rfl) rfl ?_
          refine s_val rfl rfl (v_assign rfl rfl) ?_
          refine x_next ⟨.inr (by kernel_rfl), ?_⟩
          refine x_done (by kernel_rfl) ?_
          refine wp_ret ?_
          refine ret_tmp Try.results7 rfl ?_
          refine ⟨cx.ext, _, rfl, ?_⟩
          show ((!q6 || !q10) || q20) = true
          cases hh : (!q6 || !q10) with
          | true => rfl
          | false => simpa using hp20 (by rw [hh]; rfl)
        · skip
          refine s_gval rfl rfl rfl (by first | exact w_ff rfl | exact w_gf rfl) (fun hc => v_load rfl rfl Try.underlying33 rfl sz33 (cx.row 1 rfl) ha.len) ?_
          refine x_next ⟨.inr (by kernel_rfl), ?_⟩
          refine x_one (i := 11) (by kernel_rfl) rfl ?_
          refine s_gfn cx rfl rfl rfl (by first | exact w_ff rfl | exact w_gf rfl) (fun hc => c30 E hE av bv _ _ _ (ha.up cx.ext) (hb.up cx.ext) (okv_of (hp6 (by cases q6 <;> first | rfl | (simp at hc)))).ok (okv_of (hp10 (by cases q6 <;> first | rfl | (simp at hc)) (by cases q6 <;> cases q10 <;> first | rfl | (simp at hc)))).ok hfa hfb (by have h1 := dfr_len (E := E) 48 [] av bv; have h2 := (okv_of (hp6 (by cases q6 <;> first | rfl | (simp at hc)))).sz48; have h3 := (okv_of (hp6 (by cases q6 <;> first | rfl | (simp at hc)))).sz; omega)) Try.func30 rfl rfl rfl (fun hc => cons_eq (gve hc rfl) (cons_eq (gve hc rfl) rfl)) ?_; intro q16 w cx hw16 hp16
          refine x_next ⟨.inr (by kernel_rfl), ?_⟩
          refine x_one (i := 14) (by kernel_rfl) rfl ?_
          refine s_gfn cx rfl rfl rfl (by first | exact w_ff rfl | exact w_gf rfl) (fun hc => c31 E hE av bv _ _ _ (ha.up cx.ext) (hb.up cx.ext) (okv_of (hp6 (by cases q6 <;> first | rfl | (simp at hc)))).ok (okv_of (hp10 (by cases q6 <;> first | rfl | (simp at hc)) (by cases q6 <;> cases q10 <;> first | rfl | (simp at hc)))).ok hfa hfb (by have h1 := dfr_len (E := E) 48 [] av bv; have h2 := (okv_of (hp6 (by cases q6 <;> first | rfl | (simp at hc)))).sz48; have h3 := (okv_of (hp6 (by cases q6 <;> first | rfl | (simp at hc)))).sz; omega)) Try.func31 rfl rfl rfl (fun hc => cons_eq (gve hc rfl) (cons_eq (gve hc rfl) rfl)) ?_; intro q19 w cx hw19 hp19
          replace hp16 := fun hc => (hp16 hc).up hw19
          refine x_next ⟨.inr (by kernel_rfl), ?_⟩
          refine x_one (i := 15) (by kernel_rfl) rfl ?_
          refine s_gfnB cx rfl rfl rfl (by first | exact w_ff rfl | exact w_gf rfl) (fun hc => c29p (dfr E 48 [] av bv) _ _ _ (hp16 hc) (hp19 hc) (by have h1 := dfr_len (E := E) 48 [] av bv; have h2 := (okv_of (hp6 (by cases q6 <;> first | rfl | (simp at hc)))).sz48; have h3 := (okv_of (hp6 (by cases q6 <;> first | rfl | (simp at hc)))).sz; omega) (fun p hp => by have := dfr_depth _ _ _ _ _ hp; simp at this; omega)) Try.func29 rfl rfl rfl (fun hc => cons_eq (gve hc rfl) (cons_eq (gve hc rfl) rfl)) ?_; intro q20 w cx hw20 hp20
          refine x_next ⟨.inr (by kernel_rfl), ?_⟩
          refine x_one (i := 16) (by kernel_rfl) rfl ?_
          refine s_val rfl rfl (v_or rfl rfl rfl rfl) ?_
          refine x_next ⟨.inr (by kernel_rfl), ?_⟩
          refine x_one (i := 17) (by kernel_rfl) rfl ?_
          refine s_val rfl rfl (v_assign rfl rfl) ?_
          refine x_next ⟨.inr (by kernel_rfl), ?_⟩
          refine x_done (by kernel_rfl) ?_
          refine wp_ret ?_
          refine ret_tmp Try.results7 rfl ?_
          refine ⟨cx.ext, _, rfl, ?_⟩
          show ((!q6 || !q10) || q20) = true
          cases hh : (!q6 || !q10) with
          | true => rfl
          | false => simpa using hp20 (by rw [hh]; rfl)
    · skip
      refine s_gval rfl rfl rfl (by first | exact w_ff rfl | exact w_gf rfl) (fun hc => v_load rfl rfl Try.underlying33 rfl sz33 (cx.row 1 rfl) ha.len) ?_
      refine x_next ⟨.inr (by kernel_rfl), ?_⟩
      refine x_two (i := 9) (j := 13) (by kernel_rfl) rfl rfl ?_ ?_
      · skip
        refine s_gval rfl rfl rfl (by first | exact w_ff rfl | exact w_gf rfl) (fun hc => v_load rfl rfl Try.underlying33 rfl sz33 (cx.row 1 rfl) ha.len) ?_
        refine x_next ⟨.inr (by kernel_rfl), ?_⟩
        refine x_two (i := 11) (j := 13) (by kernel_rfl) rfl rfl ?_ ?_
        · skip
          refine s_gfn cx rfl rfl rfl (by first | exact w_ff rfl | exact w_gf rfl) (fun hc => c30 E hE av bv _ _ _ (ha.up cx.ext) (hb.up cx.ext) (okv_of (hp6 (by cases q6 <;> first | rfl | (simp at hc)))).ok (okv_of (hp10 (by cases q6 <;> first | rfl | (simp at hc)) (by cases q6 <;> cases q10 <;> first | rfl | (simp at hc)))).ok hfa hfb (by have h1 := dfr_len (E := E) 48 [] av bv; have h2 := (okv_of (hp6 (by cases q6 <;> first | rfl | (simp at hc)))).sz48; have h3 := (okv_of (hp6 (by cases q6 <;> first | rfl | (simp at hc)))).sz; omega)) Try.func30 rfl rfl rfl (fun hc => cons_eq (gve hc rfl) (cons_eq (gve hc rfl) rfl)) ?_; intro q16 w cx hw16 hp16
          refine x_next ⟨.inr (by kernel_rfl), ?_⟩
          refine x_one (i := 13) (by kernel_rfl) rfl ?_
          refine s_gval rfl rfl rfl (by first | exact w_ff rfl | exact w_gf rfl) (fun hc => v_load rfl rfl Try.underlying33 rfl sz33 (cx.row 0 rfl) hb.len) ?_
          refine x_next ⟨.inr (by kernel_rfl), ?_⟩
          refine x_one (i := 14) (by kernel_rfl) rfl ?_
          refine s_gfn cx rfl rfl rfl (by first | exact w_ff rfl | exact w_gf rfl) (fun hc => c31 E hE av bv _ _ _ (ha.up cx.ext) (hb.up cx.ext) (okv_of (hp6 (by cases q6 <;> first | rfl | (simp at hc)))).ok (okv_of (hp10 (by cases q6 <;> first | rfl | (simp at hc)) (by cases q6 <;> cases q10 <;> first | rfl | (simp at hc)))).ok hfa hfb (by have h1 := dfr_len (E := E) 48 [] av bv; have h2 := (okv_of (hp6 (by cases q6 <;> first | rfl | (simp at hc)))).sz48; have h3 := (okv_of (hp6 (by cases q6 <;> first | rfl | (simp at hc)))).sz; omega)) Try.func31 rfl rfl rfl (fun hc => cons_eq (gve hc rfl) (cons_eq (gve hc rfl) rfl)) ?_; intro q19 w cx hw19 hp19
          replace hp16 := fun hc => (hp16 hc).up hw19
          refine x_next ⟨.inr (by kernel_rfl), ?_⟩
          refine x_one (i := 15) (by kernel_rfl) rfl ?_
          refine s_gfnB cx rfl rfl rfl (by first | exact w_ff rfl | exact w_gf rfl) (fun hc => c29p (dfr E 48 [] av bv) _ _ _ (hp16 hc) (hp19 hc) (by have h1 := dfr_len (E := E) 48 [] av bv; have h2 := (okv_of (hp6 (by cases q6 <;> first | rfl | (simp at hc)))).sz48; have h3 := (okv_of (hp6 (by cases q6 <;> first | rfl | (simp at hc)))).sz; omega) (fun p hp => by have := dfr_depth _ _ _ _ _ hp; simp at this; omega)) Try.func29 rfl rfl rfl (fun hc => cons_eq (gve hc rfl) (cons_eq (gve hc rfl) rfl)) ?_; intro q20 w cx hw20 hp20
          refine x_next ⟨.inr (by kernel_rfl), ?_⟩
          refine x_one (i := 16) (by kernel_rfl) rfl ?_
          refine s_val rfl rfl (v_or rfl rfl rfl rfl) ?_
          refine x_next ⟨.inr (by kernel_rfl), ?_⟩
          refine x_one (i := 17) (by kernel_rfl) rfl ?_
          refine s_val rfl rfl (v_assign rfl rfl) ?_
          refine x_next ⟨.inr (by kernel_rfl), ?_⟩
          refine x_done (by kernel_rfl) ?_
          refine wp_ret ?_
          refine ret_tmp Try.results7 rfl ?_
          refine ⟨cx.ext, _, rfl, ?_⟩
          show ((!q6 || !q10) || q20) = true
          cases hh : (!q6 || !q10) with
          | true => rfl
          | false => simpa using hp20 (by rw [hh]; rfl)
        · skip
          refine s_gval rfl rfl rfl (by first | exact w_ff rfl | exact w_gf rfl) (fun hc => v_load rfl rfl Try.underlying33 rfl sz33 (cx.row 0 rfl) hb.len) ?_
          refine x_next ⟨.inr (by kernel_rfl), ?_⟩
          refine x_one (i := 11) (by kernel_rfl) rfl ?_
          refine s_gfn cx rfl rfl rfl (by first | exact w_ff rfl | exact w_gf rfl) (fun hc => c30 E hE av bv _ _ _ (ha.up cx.ext) (hb.up cx.ext) (okv_of (hp6 (by cases q6 <;> first | rfl | (simp at hc)))).ok (okv_of (hp10 (by cases q6 <;> first | rfl | (simp at hc)) (by cases q6 <;> cases q10 <;> first | rfl | (simp at hc)))).ok hfa hfb (by have h1 := dfr_len (E := E) 48 [] av bv; have h2 := (okv_of (hp6 (by cases q6 <;> first | rfl | (simp at hc)))).sz48; have h3 := (okv_of (hp6 (by cases q6 <;> first | rfl | (simp at hc)))).sz; omega)) Try.func30 rfl rfl rfl (fun hc => cons_eq (gve hc rfl) (cons_eq (gve hc rfl) rfl)) ?_; intro q16 w cx hw16 hp16
          refine x_next ⟨.inr (by kernel_rfl), ?_⟩
          refine x_one (i := 14) (by kernel_rfl) rfl ?_
          refine s_gfn cx rfl rfl rfl (by first | exact w_ff rfl | exact w_gf rfl) (fun hc => c31 E hE av bv _ _ _ (ha.up cx.ext) (hb.up cx.ext) (okv_of (hp6 (by cases q6 <;> first | rfl | (simp at hc)))).ok (okv_of (hp10 (by cases q6 <;> first | rfl | (simp at hc)) (by cases q6 <;> cases q10 <;> first | rfl | (simp at hc)))).ok hfa hfb (by have h1 := dfr_len (E := E) 48 [] av bv; have h2 := (okv_of (hp6 (by cases q6 <;> first | rfl | (simp at hc)))).sz48; have h3 := (okv_of (hp6 (by cases q6 <;> first | rfl | (simp at hc)))).sz; omega)) Try.func31 rfl rfl rfl (fun hc => cons_eq (gve hc rfl) (cons_eq (gve hc rfl) rfl)) ?_; intro q19 w cx hw19 hp19
          replace hp16 := fun hc => (hp16 hc).up hw19
          refine x_next ⟨.inr (by kernel_rfl), ?_⟩
          refine x_one (i := 15) (by kernel_rfl) rfl ?_
          refine s_gfnB cx rfl rfl rfl (by first | exact w_ff rfl | exact w_gf rfl) (fun hc => c29p (dfr E 48 [] av bv) _ _ _ (hp16 hc) (hp19 hc) (by have h1 := dfr_len (E := E) 48 [] av bv; have h2 := (okv_of (hp6 (by cases q6 <;> first | rfl | (simp at hc)))).sz48; have h3 := (okv_of (hp6 (by cases q6 <;> first | rfl | (simp at hc)))).sz; omega) (fun p hp => by have := dfr_depth _ _ _ _ _ hp; simp at this; omega)) Try.func29 rfl rfl rfl (fun hc => cons_eq (gve hc rfl) (cons_eq (gve hc rfl) rfl)) ?_; intro q20 w cx hw20 hp20
          refine x_next ⟨.inr (by kernel_rfl), ?_⟩
          refine x_one (i := 16) (by kernel_rfl) rfl ?_
          refine s_val rfl rfl (v_or rfl rfl rfl rfl) ?_
          refine x_next ⟨.inr (by kernel_rfl), ?_⟩
          refine x_one (i := 17) (by kernel_rfl) rfl ?_
          refine s_val rfl rfl (v_assign rfl rfl) ?_
          refine x_next ⟨.inr (by kernel_rfl), ?_⟩
          refine x_done (by kernel_rfl) ?_
          refine wp_ret ?_
          refine ret_tmp Try.results7 rfl ?_
          refine ⟨cx.ext, _, rfl, ?_⟩
          show ((!q6 || !q10) || q20) = true
          cases hh : (!q6 || !q10) with
          | true => rfl
          | false => simpa using hp20 (by rw [hh]; rfl)
      · skip
        refine s_gval rfl rfl rfl (by first | exact w_ff rfl | exact w_gf rfl) (fun hc => v_load rfl rfl Try.underlying33 rfl sz33 (cx.row 0 rfl) hb.len) ?_
        refine x_next ⟨.inr (by kernel_rfl), ?_⟩
        refine x_one (i := 9) (by kernel_rfl) rfl ?_
        refine s_gval rfl rfl rfl (by first | exact w_ff rfl | exact w_gf rfl) (fun hc => v_load rfl rfl Try.underlying33 rfl sz33 (cx.row 1 rfl) ha.len) ?_
        refine x_next ⟨.inr (by kernel_rfl), ?_⟩
        refine x_one (i := 11) (by kernel_rfl) rfl ?_
        refine s_gfn cx rfl rfl rfl (by first | exact w_ff rfl | exact w_gf rfl) (fun hc => c30 E hE av bv _ _ _ (ha.up cx.ext) (hb.up cx.ext) (okv_of (hp6 (by cases q6 <;> first | rfl | (simp at hc)))).ok (okv_of (hp10 (by cases q6 <;> first | rfl | (simp at hc)) (by cases q6 <;> cases q10 <;> first | rfl | (simp at hc)))).ok hfa hfb (by have h1 := dfr_len (E := E) 48 [] av bv; have h2 := (okv_of (hp6 (by cases q6 <;> first | rfl | (simp at hc)))).sz48; have h3 := (okv_of (hp6 (by cases q6 <;> first | rfl | (simp at hc)))).sz; omega)) Try.func30 rfl rfl rfl (fun hc => cons_eq (gve hc rfl) (cons_eq (gve hc rfl) rfl)) ?_; intro q16 w cx hw16 hp16
        refine x_next ⟨.inr (by kernel_rfl), ?_⟩
        refine x_one (i := 14) (by kernel_rfl) rfl ?_
        refine s_gfn cx rfl rfl rfl (by first | exact w_ff rfl | exact w_gf rfl) (fun hc => c31 E hE av bv _ _ _ (ha.up cx.ext) (hb.up cx.ext) (okv_of (hp6 (by cases q6 <;> first | rfl | (simp at hc)))).ok (okv_of (hp10 (by cases q6 <;> first | rfl | (simp at hc)) (by cases q6 <;> cases q10 <;> first | rfl | (simp at hc)))).ok hfa hfb (by have h1 := dfr_len (E := E) 48 [] av bv; have h2 := (okv_of (hp6 (by cases q6 <;> first | rfl | (simp at hc)))).sz48; have h3 := (okv_of (hp6 (by cases q6 <;> first | rfl | (simp at hc)))).sz; omega)) Try.func31 rfl rfl rfl (fun hc => cons_eq (gve hc rfl) (cons_eq (gve hc rfl) rfl)) ?_; intro q19 w cx hw19 hp19
        replace hp16 := fun hc => (hp16 hc).up hw19
        refine x_next ⟨.inr (by kernel_rfl), ?_⟩
        refine x_one (i := 15) (by kernel_rfl) rfl ?_
        refine s_gfnB cx rfl rfl rfl (by first | exact w_ff rfl | exact w_gf rfl) (fun hc => c29p (dfr E 48 [] av bv) _ _ _ (hp16 hc) (hp19 hc) (by have h1 := dfr_len (E := E) 48 [] av bv; have h2 := (okv_of (hp6 (by cases q6 <;> first | rfl | (simp at hc)))).sz48; have h3 := (okv_of (hp6 (by cases q6 <;> first | rfl | (simp at hc)))).sz; omega) (fun p hp => by have := dfr_depth _ _ _ _ _ hp; simp at this; omega)) Try.func29 rfl rfl rfl (fun hc => cons_eq (gve hc rfl) (cons_eq (gve hc rfl) rfl)) ?_; intro q20 w cx hw20 hp20
        refine x_next ⟨.inr (by kernel_rfl), ?_⟩
        refine x_one (i := 16) (by kernel_rfl) rfl ?_
        refine s_val rfl rfl (v_or rfl rfl rfl rfl) ?_
        refine x_next ⟨.inr (by kernel_rfl), ?_⟩
        refine x_one (i := 17) (by kernel_rfl) rfl ?_
        refine s_val rfl rfl (v_assign rfl rfl) ?_
        refine x_next ⟨.inr (by kernel_rfl), ?_⟩
        refine x_done (by kernel_rfl) ?_
        refine wp_ret ?_
        refine ret_tmp Try.results7 rfl ?_
        refine ⟨cx.ext, _, rfl, ?_⟩
        show ((!q6 || !q10) || q20) = true
        cases hh : (!q6 || !q10) with
        | true => rfl
        | false => simpa using hp20 (by rw [hh]; rfl)
    · skip
      refine s_gval rfl rfl rfl (by first | exact w_ff rfl | exact w_gf rfl) (fun hc => v_load rfl rfl Try.underlying33 rfl sz33 (cx.row 0 rfl) hb.len) ?_
      refine x_next ⟨.inr (by kernel_rfl), ?_⟩
      refine x_two (i := 9) (j := 12) (by kernel_rfl) rfl rfl ?_ ?_
      · skip
        refine s_gval rfl rfl rfl (by first | exact w_ff rfl | exact w_gf rfl) (fun hc => v_load rfl rfl Try.underlying33 rfl sz33 (cx.row 1 rfl) ha.len) ?_
        refine x_next ⟨.inr (by kernel_rfl), ?_⟩
        refine x_two (i := 11) (j := 12) (by kernel_rfl) rfl rfl ?_ ?_
        · skip
          refine s_gfn cx rfl rfl rfl (by first | exact w_ff rfl | exact w_gf rfl) (fun hc => c30 E hE av bv _ _ _ (ha.up cx.ext) (hb.up cx.ext) (okv_of (hp6 (by cases q6 <;> first | rfl | (simp at hc)))).ok (okv_of (hp10 (by cases q6 <;> first | rfl | (simp at hc)) (by cases q6 <;> cases q10 <;> first | rfl | (simp at hc)))).ok hfa hfb (by have h1 := dfr_len (E := E) 48 [] av bv; have h2 := (okv_of (hp6 (by cases q6 <;> first | rfl | (simp at hc)))).sz48; have h3 := (okv_of (hp6 (by cases q6 <;> first | rfl | (simp at hc)))).sz; omega)) Try.func30 rfl rfl rfl (fun hc => cons_eq (gve hc rfl) (cons_eq (gve hc rfl) rfl)) ?_; intro q16 w cx hw16 hp16
          refine x_next ⟨.inr (by kernel_rfl), ?_⟩
          refine x_one (i := 12) (by kernel_rfl) rfl ?_
          refine s_gval rfl rfl rfl (by first | exact w_ff rfl | exact w_gf rfl) (fun hc => v_load rfl rfl Try.underlying33 rfl sz33 (cx.row 1 rfl) ha.len) ?_
          refine x_next ⟨.inr (by kernel_rfl), ?_⟩
          refine x_one (i := 14) (by kernel_rfl) rfl ?_
          refine s_gfn cx rfl rfl rfl (by first | exact w_ff rfl | exact w_gf rfl) (fun hc => c31 E hE av bv _ _ _ (ha.up cx.ext) (hb.up cx.ext) (okv_of (hp6 (by cases q6 <;> first | rfl | (simp at hc)))).ok (okv_of (hp10 (by cases q6 <;> first | rfl | (simp at hc)) (by cases q6 <;> cases q10 <;> first | rfl | (simp at hc)))).ok hfa hfb (by have h1 := dfr_len (E := E) 48 [] av bv; have h2 := (okv_of (hp6 (by cases q6 <;> first | rfl | (simp at hc)))).sz48; have h3 := (okv_of (hp6 (by cases q6 <;> first | rfl | (simp at hc)))).sz; omega)) Try.func31 rfl rfl rfl (fun hc => cons_eq (gve hc rfl) (cons_eq (gve hc rfl) rfl)) ?_; intro q19 w cx hw19 hp19
          replace hp16 := fun hc => (hp16 hc).up hw19
          refine x_next ⟨.inr (by kernel_rfl), ?_⟩
          refine x_one (i := 15) (by kernel_rfl) rfl ?_
          refine s_gfnB cx rfl rfl rfl (by first | exact w_ff rfl | exact w_gf rfl) (fun hc => c29p (dfr E 48 [] av bv) _ _ _ (hp16 hc) (hp19 hc) (by have h1 := dfr_len (E := E) 48 [] av bv; have h2 := (okv_of (hp6 (by cases q6 <;> first | rfl | (simp at hc)))).sz48; have h3 := (okv_of (hp6 (by cases q6 <;> first | rfl | (simp at hc)))).sz; omega) (fun p hp => by have := dfr_depth _ _ _ _ _ hp; simp at this; omega)) Try.func29 rfl rfl rfl (fun hc => cons_eq (gve hc rfl) (cons_eq (gve hc rfl) rfl)) ?_; intro q20 w cx hw20 hp20
          refine x_next ⟨.inr (by kernel_rfl), ?_⟩
          refine x_one (i := 16) (by kernel_rfl) rfl ?_
          refine s_val rfl rfl (v_or rfl rfl rfl rfl) ?_
          refine x_next ⟨.inr (by kernel_rfl), ?_⟩
          refine x_one (i := 17) (by kernel_rfl) rfl ?_
          refine s_val rfl rfl (v_assign rfl rfl) ?_
          refine x_next ⟨.inr (by kernel_rfl), ?_⟩
          refine x_done (by kernel_rfl) ?_
          refine wp_ret ?_
          refine ret_tmp Try.results7 rfl ?_
          refine ⟨cx.ext, _, rfl, ?_⟩
          show ((!q6 || !q10) || q20) = true
          cases hh : (!q6 || !q10) with
          | true => rfl
          | false => simpa using hp20 (by rw [hh]; rfl)
        · skip
          refine s_gval rfl rfl rfl (by first | exact w_ff rfl | exact w_gf rfl) (fun hc => v_load rfl rfl Try.underlying33 rfl sz33 (cx.row 1 rfl) ha.len) ?_
          refine x_next ⟨.inr (by kernel_rfl), ?_⟩
          refine x_one (i := 11) (by kernel_rfl) rfl ?_
          refine s_gfn cx rfl rfl rfl (by first | exact w_ff rfl | exact w_gf rfl) (fun hc => c30 E hE av bv _ _ _ (ha.up cx.ext) (hb.up cx.ext) (okv_of (hp6 (by cases q6 <;> first | rfl | (simp at hc)))).ok (okv_of (hp10 (by cases q6 <;> first | rfl | (simp at hc)) (by cases q6 <;> cases q10 <;> first | rfl | (simp at hc)))).ok hfa hfb (by have h1 := dfr_len (E := E) 48 [] av bv; have h2 := (okv_of (hp6 (by cases q6 <;> first | rfl | (simp at hc)))).sz48; have h3 := (okv_of (hp6 (by cases q6 <;> first | rfl | (simp at hc)))).sz; omega)) Try.func30 rfl rfl rfl (fun hc => cons_eq (gve hc rfl) (cons_eq (gve hc rfl) rfl)) ?_; intro q16 w cx hw16 hp16
          refine x_next ⟨.inr (by kernel_rfl), ?_⟩
          refine x_one (i := 14) (by kernel_rfl) rfl ?_
          refine s_gfn cx rfl rfl rfl (by first | exact w_ff rfl | exact w_gf rfl) (fun hc => c31 E hE av bv _ _ _ (ha.up cx.ext) (hb.up cx.ext) (okv_of (hp6 (by cases q6 <;> first | rfl | (simp at hc)))).ok (okv_of (hp10 (by cases q6 <;> first | rfl | (simp at hc)) (by cases q6 <;> cases q10 <;> first | rfl | (simp at hc)))).ok hfa hfb (by have h1 := dfr_len (E := E) 48 [] av bv; have h2 := (okv_of (hp6 (by cases q6 <;> first | rfl | (simp at hc)))).sz48; have h3 := (okv_of (hp6 (by cases q6 <;> first | rfl | (simp at hc)))).sz; omega)) Try.func31 rfl rfl rfl (fun hc => cons_eq (gve hc rfl) (cons_eq (gve hc rfl) rfl)) ?_; intro q19 w cx hw19 hp19
          replace hp16 := fun hc => (hp16 hc).up hw19
          refine x_next ⟨.inr (by kernel_rfl), ?_⟩
          refine x_one (i := 15) (by kernel_rfl) rfl ?_
          refine s_gfnB cx rfl rfl rfl (by first | exact w_ff rfl | exact w_gf rfl) (fun hc => c29p (dfr E 48 [] av bv) _ _ _ (hp16 hc) (hp19 hc) (by have h1 := dfr_len (E := E) 48 [] av bv; have h2 := (okv_of (hp6 (by cases q6 <;> first | rfl | (simp at hc)))).sz48; have h3 := (okv_of (hp6 (by cases q6 <;> first | rfl | (simp at hc)))).sz; omega) (fun p hp => by have := dfr_depth _ _ _ _ _ hp; simp at this; omega)) Try.func29 rfl rfl rfl (fun hc => cons_eq (gve hc rfl) (cons_eq (gve hc rfl) rfl)) ?_; intro q20 w cx hw20 hp20
          refine x_next ⟨.inr (by kernel_rfl), ?_⟩
          refine x_one (i := 16) (by kernel_rfl) rfl ?_
          refine s_val rfl rfl (v_or rfl rfl rfl rfl) ?_
          refine x_next ⟨.inr (by kernel_rfl), ?_⟩
          refine x_one (i := 17) (by kernel_rfl) rfl ?_
          refine s_val rfl rfl (v_assign rfl rfl) ?_
          refine x_next ⟨.inr (by kernel_rfl), ?_⟩
          refine x_done (by kernel_rfl) ?_
          refine wp_ret ?_
          refine ret_tmp Try.results7 rfl ?_
          refine ⟨cx.ext, _, rfl, ?_⟩
          show ((!q6 || !q10) || q20) = true
          cases hh : (!q6 || !q10) with
          | true => rfl
          | false => simpa using hp20 (by rw [hh]; rfl)
      · skip
        refine s_gval rfl rfl rfl (by first | exact w_ff rfl | exact w_gf rfl) (fun hc => v_load rfl rfl Try.underlying33 rfl sz33 (cx.row 1 rfl) ha.len) ?_
        refine x_next ⟨.inr (by kernel_rfl), ?_⟩
        refine x_one (i := 9) (by kernel_rfl) rfl ?_
        refine s_gval rfl rfl rfl (by first | exact w_ff rfl | exact w_gf rfl) (fun hc => v_load rfl rfl Try.underlying33 rfl sz33 (cx.row 1 rfl) ha.len) ?_
        refine x_next ⟨.inr (by kernel_rfl), ?_⟩
        refine x_one (i := 11) (by kernel_rfl) rfl ?_
        refine s_gfn cx rfl rfl rfl (by first | exact w_ff rfl | exact w_gf rfl) (fun hc => c30 E hE av bv _ _ _ (ha.up cx.ext) (hb.up cx.ext) (okv_of (hp6 (by cases q6 <;> first | rfl | (simp at hc)))).ok (okv_of (hp10 (by cases q6 <;> first | rfl | (simp at hc)) (by cases q6 <;> cases q10 <;> first | rfl | (simp at hc)))).ok hfa hfb (by have h1 := dfr_len (E := E) 48 [] av bv; have h2 := (okv_of (hp6 (by cases q6 <;> first | rfl | (simp at hc)))).sz48; have h3 := (okv_of (hp6 (by cases q6 <;> first | rfl | (simp at hc)))).sz; omega)) Try.func30 rfl rfl rfl (fun hc => cons_eq (gve hc rfl) (cons_eq (gve hc rfl) rfl)) ?_; intro q16 w cx hw16 hp16
        refine x_next ⟨.inr (by kernel_rfl), ?_⟩
        refine x_one (i := 14) (by kernel_rfl) rfl ?_
        refine s_gfn cx rfl rfl rfl (by first | exact w_ff rfl | exact w_gf rfl) (fun hc => c31 E hE av bv _ _ _ (ha.up cx.ext) (hb.up cx.ext) (okv_of (hp6 (by cases q6 <;> first | rfl | (simp at hc)))).ok (okv_of (hp10 (by cases q6 <;> first | rfl | (simp at hc)) (by cases q6 <;> cases q10 <;> first | rfl | (simp at hc)))).ok hfa hfb (by have h1 := dfr_len (E := E) 48 [] av bv; have h2 := (okv_of (hp6 (by cases q6 <;> first | rfl | (simp at hc)))).sz48; have h3 := (okv_of (hp6 (by cases q6 <;> first | rfl | (simp at hc)))).sz; omega)) Try.func31 rfl rfl rfl (fun hc => cons_eq (gve hc rfl) (cons_eq (gve hc rfl) rfl)) ?_; intro q19 w cx hw19 hp19
        replace hp16 := fun hc => (hp16 hc).up hw19
        refine x_next ⟨.inr (by kernel_rfl), ?_⟩
        refine x_one (i := 15) (by kernel_rfl) rfl ?_
        refine s_gfnB cx rfl rfl rfl (by first | exact w_ff rfl | exact w_gf rfl) (fun hc => c29p (dfr E 48 [] av bv) _ _ _ (hp16 hc) (hp19 hc) (by have h1 := dfr_len (E := E) 48 [] av bv; have h2 := (okv_of (hp6 (by cases q6 <;> first | rfl | (simp at hc)))).sz48; have h3 := (okv_of (hp6 (by cases q6 <;> first | rfl | (simp at hc)))).sz; omega) (fun p hp => by have := dfr_depth _ _ _ _ _ hp; simp at this; omega)) Try.func29 rfl rfl rfl (fun hc => cons_eq (gve hc rfl) (cons_eq (gve hc rfl) rfl)) ?_; intro q20 w cx hw20 hp20
        refine x_next ⟨.inr (by kernel_rfl), ?_⟩
        refine x_one (i := 16) (by kernel_rfl) rfl ?_
        refine s_val rfl rfl (v_or rfl rfl rfl rfl) ?_
        refine x_next ⟨.inr (by kernel_rfl), ?_⟩
        refine x_one (i := 17) (by kernel_rfl) rfl ?_
        refine s_val rfl rfl (v_assign rfl rfl) ?_
        refine x_next ⟨.inr (by kernel_rfl), ?_⟩
        refine x_done (by kernel_rfl) ?_
        refine wp_ret ?_
        refine ret_tmp Try.results7 rfl ?_
        refine ⟨cx.ext, _, rfl, ?_⟩
        show ((!q6 || !q10) || q20) = true
        cases hh : (!q6 || !q10) with
        | true => rfl
        | false => simpa using hp20 (by rw [hh]; rfl)
  · skip
    refine s_gval rfl rfl rfl (by first | exact w_ff rfl | exact w_gf rfl) (fun hc => v_load rfl rfl Try.underlying33 rfl sz33 (cx.row 1 rfl) ha.len) ?_
    refine x_next ⟨.inr (by kernel_rfl), ?_⟩
    refine x_three (i := 9) (j := 10) (m := 13) (by kernel_rfl) rfl rfl rfl ?_ ?_ ?_
    · skip
      refine s_gval rfl rfl rfl (by first | exact w_ff rfl | exact w_gf rfl) (fun hc => v_load rfl rfl Try.underlying33 rfl sz33 (cx.row 1 rfl) ha.len) ?_
      refine x_next ⟨.inr (by kernel_rfl), ?_⟩
      refine x_two (i := 10) (j := 13) (by kernel_rfl) rfl rfl ?_ ?_
      · skip
        refine s_gval rfl rfl rfl (by first | exact w_ff rfl | exact w_gf rfl) (fun hc => v_load rfl rfl Try.underlying33 rfl sz33 (cx.row 0 rfl) hb.len) ?_
        refine x_next ⟨.inr (by kernel_rfl), ?_⟩
        refine x_two (i := 11) (j := 13) (by kernel_rfl) rfl rfl ?_ ?_
        · skip
          refine s_gfn cx rfl rfl rfl (by first | exact w_ff rfl | exact w_gf rfl) (fun hc => c30 E hE av bv _ _ _ (ha.up cx.ext) (hb.up cx.ext) (okv_of (hp6 (by cases q6 <;> first | rfl | (simp at hc)))).ok (okv_of (hp10 (by cases q6 <;> first | rfl | (simp at hc)) (by cases q6 <;> cases q10 <;> first | rfl | (simp at hc)))).ok hfa hfb (by have h1 := dfr_len (E := E) 48 [] av bv; have h2 := (okv_of (hp6 (by cases q6 <;> first | rfl | (simp at hc)))).sz48; have h3 := (okv_of (hp6 (by cases q6 <;> first | rfl | (simp at hc)))).sz; omega)) Try.func30 rfl rfl rfl (fun hc => cons_eq (gve hc rfl) (cons_eq (gve hc rfl) rfl)) ?_; intro q16 w cx hw16 hp16
          refine x_next ⟨.inr (by kernel_rfl), ?_⟩
          refine x_one (i := 13) (by kernel_rfl) rfl ?_
          refine s_gval rfl rfl rfl (by first | exact w_ff rfl | exact w_gf rfl) (fun hc => v_load rfl rfl Try.underlying33 rfl sz33 (cx.row 0 rfl) hb.len) ?_
          refine x_next ⟨.inr (by kernel_rfl), ?_⟩
          refine x_one (i := 14) (by kernel_rfl) rfl ?_
          refine s_gfn cx rfl rfl rfl (by first | exact w_ff rfl | exact w_gf rfl) (fun hc => c31 E hE av bv _ _ _ (ha.up cx.ext) (hb.up cx.ext) (okv_of (hp6 (by cases q6 <;> first | rfl | (simp at hc)))).ok (okv_of (hp10 (by cases q6 <;> first | rfl | (simp at hc)) (by cases q6 <;> cases q10 <;> first | rfl | (simp at hc)))).ok hfa hfb (by have h1 := dfr_len (E := E) 48 [] av bv; have h2 := (okv_of (hp6 (by cases q6 <;> first | rfl | (simp at hc)))).sz48; have h3 := (okv_of (hp6 (by cases q6 <;> first | rfl | (simp at hc)))).sz; omega)) Try.func31 rfl rfl rfl (fun hc => cons_eq (gve hc rfl) (cons_eq (gve hc rfl) rfl)) ?_; intro q19 w cx hw19 hp19
          replace hp16 := fun hc => (hp16 hc).up hw19
          refine x_next ⟨.inr (by kernel_rfl), ?_⟩
          refine x_one (i := 15) (by kernel_rfl) rfl ?_
          refine s_gfnB cx rfl rfl rfl (by first | exact w_ff rfl | exact w_gf rfl) (fun hc => c29p (dfr E 48 [] av bv) _ _ _ (hp16 hc) (hp19 hc) (by have h1 := dfr_len (E := E) 48 [] av bv; have h2 := (okv_of (hp6 (by cases q6 <;> first | rfl | (simp at hc)))).sz48; have h3 := (okv_of (hp6 (by cases q6 <;> first | rfl | (simp at hc)))).sz; omega) (fun p hp => by have := dfr_depth _ _ _ _ _ hp; simp at this; omega)) Try.func29 rfl rfl rfl (fun hc => cons_eq (gve hc rfl) (cons_eq (gve hc rfl) rfl)) ?_; intro q20 w cx hw20 hp20
          refine x_next ⟨.inr (by kernel_rfl), ?_⟩
          refine x_one (i := 16) (by kernel_rfl) rfl ?_
          refine s_val rfl rfl (v_or rfl rfl rfl rfl) ?_
          refine x_next ⟨.inr (by kernel_rfl), ?_⟩
          refine x_one (i := 17) (by kernel_rfl) rfl ?_
          refine s_val rfl rfl (v_assign rfl rfl) ?_
          refine x_next ⟨.inr (by kernel_rfl), ?_⟩
          refine x_done (by kernel_rfl) ?_
          refine wp_ret ?_
          refine ret_tmp Try.results7 rfl ?_
          refine ⟨cx.ext, _, rfl, ?_⟩
          show ((!q6 || !q10) || q20) = true
          cases hh : (!q6 || !q10) with
          | true => rfl
          | false => simpa using hp20 (by rw [hh]; rfl)
        · skip
          refine s_gval rfl rfl rfl (by first | exact w_ff rfl | exact w_gf rfl) (fun hc => v_load rfl rfl Try.underlying33 rfl sz33 (cx.row 0 rfl) hb.len) ?_
          refine x_next ⟨.inr (by kernel_rfl), ?_⟩
          refine x_one (i := 11) (by kernel_rfl) rfl ?_
          refine s_gfn cx rfl rfl rfl (by first | exact w_ff rfl | exact w_gf rfl) (fun hc => c30 E hE av bv _ _ _ (ha.up cx.ext) (hb.up cx.ext) (okv_of (hp6 (by cases q6 <;> first | rfl | (simp at hc)))).ok (okv_of (hp10 (by cases q6 <;> first | rfl | (simp at hc)) (by cases q6 <;> cases q10 <;> first | rfl | (simp at hc)))).ok hfa hfb (by have h1 := dfr_len (E := E) 48 [] av bv; have h2 := (okv_of (hp6 (by cases q6 <;> first | rfl | (simp at hc)))).sz48; have h3 := (okv_of (hp6 (by cases q6 <;> first | rfl | (simp at hc)))).sz; omega)) Try.func30 rfl rfl rfl (fun hc => cons_eq (gve hc rfl) (cons_eq (gve hc rfl) rfl)) ?_; intro q16 w cx hw16 hp16
          refine x_next ⟨.inr (by kernel_rfl), ?_⟩
          refine x_one (i := 14) (by kernel_rfl) rfl ?_
          refine s_gfn cx rfl rfl rfl (by first | exact w_ff rfl | exact w_gf rfl) (fun hc => c31 E hE av bv _ _ _ (ha.up cx.ext) (hb.up cx.ext) (okv_of (hp6 (by cases q6 <;> first | rfl | (simp at hc)))).ok (okv_of (hp10 (by cases q6 <;> first | rfl | (simp at hc)) (by cases q6 <;> cases q10 <;> first | rfl | (simp at hc)))).ok hfa hfb (by have h1 := dfr_len (E := E) 48 [] av bv; have h2 := (okv_of (hp6 (by cases q6 <;> first | rfl | (simp at hc)))).sz48; have h3 := (okv_of (hp6 (by cases q6 <;> first | rfl | (simp at hc)))).sz; omega)) Try.func31 rfl rfl rfl (fun hc => cons_eq (gve hc rfl) (cons_eq (gve hc rfl) rfl)) ?_; intro q19 w cx hw19 hp19
          replace hp16 := fun hc => (hp16 hc).up hw19
          refine x_next ⟨.inr (by kernel_rfl), ?_⟩
          refine x_one (i := 15) (by kernel_rfl) rfl ?_
          refine s_gfnB cx rfl rfl rfl (by first | exact w_ff rfl | exact w_gf rfl) (fun hc => c29p (dfr E 48 [] av bv) _ _ _ (hp16 hc) (hp19 hc) (by have h1 := dfr_len (E := E) 48 [] av bv; have h2 := (okv_of (hp6 (by cases q6 <;> first | rfl | (simp at hc)))).sz48; have h3 := (okv_of (hp6 (by cases q6 <;> first | rfl | (simp at hc)))).sz; omega) (fun p hp => by have := dfr_depth _ _ _ _ _ hp; simp at this; omega)) Try.func29 rfl rfl rfl (fun hc => cons_eq (gve hc rfl) (cons_eq (gve hc rfl) rfl)) ?_; intro q20 w cx hw20 hp20
          refine x_next ⟨.inr (by kernel_rfl), ?_⟩
          refine x_one (i := 16) (by kernel_rfl) rfl ?_
          refine s_val rfl rfl (v_or rfl rfl rfl rfl) ?_
          refine x_next ⟨.inr (by kernel_rfl), ?_⟩
          refine x_one (i := 17) (by kernel_rfl) rfl ?_
          refine s_val rfl rfl (v_assign rfl rfl) ?_
          refine x_next ⟨.inr (by kernel_rfl), ?_⟩
          refine x_done (by kernel_rfl) ?_
          refine wp_ret ?_
          refine ret_tmp Try.results7 rfl ?_
          refine ⟨cx.ext, _, rfl, ?_⟩
          show ((!q6 || !q10) || q20) = true
          cases hh : (!q6 || !q10) with
          | true => rfl
          | false => simpa using hp20 (by rw [hh]; rfl)
      · skip
        refine s_gval rfl rfl rfl (by first | exact w_ff rfl | exact w_gf rfl) (fun hc => v_load rfl rfl Try.underlying33 rfl sz33 (cx.row 0 rfl) hb.len) ?_
        refine x_next ⟨.inr (by kernel_rfl), ?_⟩
        refine x_one (i := 10) (by kernel_rfl) rfl ?_
        refine s_gval rfl rfl rfl (by first | exact w_ff rfl | exact w_gf rfl) (fun hc => v_load rfl rfl Try.underlying33 rfl sz33 (cx.row 0 rfl) hb.len) ?_
        refine x_next ⟨.inr (by kernel_rfl), ?_⟩
        refine x_one (i := 11) (by kernel_rfl) rfl ?_
        refine s_gfn cx rfl rfl rfl (by first | exact w_ff rfl | exact w_gf rfl) (fun hc => c30 E hE av bv _ _ _ (ha.up cx.ext) (hb.up cx.ext) (okv_of (hp6 (by cases q6 <;> first | rfl | (simp at hc)))).ok (okv_of (hp10 (by cases q6 <;> first | rfl | (simp at hc)) (by cases q6 <;> cases q10 <;> first | rfl | (simp at hc)))).ok hfa hfb (by have h1 := dfr_len (E := E) 48 [] av bv; have h2 := (okv_of (hp6 (by cases q6 <;> first | rfl | (simp at hc)))).sz48; have h3 := (okv_of (hp6 (by cases q6 <;> first | rfl | (simp at hc)))).sz; omega)) Try.func30 rfl rfl rfl (fun hc => cons_eq (gve hc rfl) (cons_eq (gve hc rfl) rfl)) ?_; intro q16 w cx hw16 hp16
        refine x_next ⟨.inr (by kernel_rfl), ?_⟩
        refine x_one (i := 14) (by kernel_rfl) rfl ?_
        refine s_gfn cx rfl rfl rfl (by first | exact w_ff rfl | exact w_gf rfl) (fun hc => c31 E hE av bv _ _ _ (ha.up cx.ext) (hb.up cx.ext) (okv_of (hp6 (by cases q6 <;> first | rfl | (simp at hc)))).ok (okv_of (hp10 (by cases q6 <;> first | rfl | (simp at hc)) (by cases q6 <;> cases q10 <;> first | rfl | (simp at hc)))).ok hfa hfb (by have h1 := dfr_len (E := E) 48 [] av bv; have h2 := (okv_of (hp6 (by cases q6 <;> first | rfl | (simp at hc)))).sz48; have h3 := (okv_of (hp6 (by cases q6 <;> first | rfl | (simp at hc)))).sz; omega)) Try.func31 rfl rfl rfl (fun hc => cons_eq (gve hc rfl) (cons_eq (gve hc rfl) rfl)) ?_; intro q19 w cx hw19 hp19
        replace hp16 := fun hc => (hp16 hc).up hw19
        refine x_next ⟨.inr (by kernel_rfl), ?_⟩
        refine x_one (i := 15) (by kernel_rfl) rfl ?_
        refine s_gfnB cx rfl rfl rfl (by first | exact w_ff rfl | exact w_gf rfl) (fun hc => c29p (dfr E 48 [] av bv) _ _ _ (hp16 hc) (hp19 hc) (by have h1 := dfr_len (E := E) 48 [] av bv; have h2 := (okv_of (hp6 (by cases q6 <;> first | rfl | (simp at hc)))).sz48; have h3 := (okv_of (hp6 (by cases q6 <;> first | rfl | (simp at hc)))).sz; omega) (fun p hp => by have := dfr_depth _ _ _ _ _ hp; simp at this; omega)) Try.func29 rfl rfl rfl (fun hc => cons_eq (gve hc rfl) (cons_eq (gve hc rfl) rfl)) ?_; intro q20 w cx hw20 hp20
        refine x_next ⟨.inr (by kernel_rfl), ?_⟩
        refine x_one (i := 16) (by kernel_rfl) rfl ?_
        refine s_val rfl rfl (v_or rfl rfl rfl rfl) ?_
        refine x_next ⟨.inr (by kernel_rfl), ?_⟩
        refine x_one (i := 17) (by kernel_rfl) rfl ?_
        refine s_val rfl rfl (v_assign rfl rfl) ?_
        refine x_next ⟨.inr (by kernel_rfl), ?_⟩
        refine x_done (by kernel_rfl) ?_
        refine wp_ret ?_
        refine ret_tmp Try.results7 rfl ?_
        refine ⟨cx.ext, _, rfl, ?_⟩
        show ((!q6 || !q10) || q20) = true
        cases hh : (!q6 || !q10) with
        | true => rfl
        | false => simpa using hp20 (by rw [hh]; rfl)
    · skip
      refine s_gval rfl rfl rfl (by first | exact w_ff rfl | exact w_gf rfl) (fun hc => v_load rfl rfl Try.underlying33 rfl sz33 (cx.row 0 rfl) hb.len) ?_
      refine x_next ⟨.inr (by kernel_rfl), ?_⟩
      refine x_two (i := 9) (j := 13) (by kernel_rfl) rfl rfl ?_ ?_
      · skip
        refine s_gval rfl rfl rfl (by first | exact w_ff rfl | exact w_gf rfl) (fun hc => v_load rfl rfl Try.underlying33 rfl sz33 (cx.row 1 rfl) ha.len) ?_
        refine x_next ⟨.inr (by kernel_rfl), ?_⟩
        refine x_two (i := 11) (j := 13) (by kernel_rfl) rfl rfl ?_ ?_
        · skip
          refine s_gfn cx rfl rfl rfl (by first | exact w_ff rfl | exact w_gf rfl) (fun hc => c30 E hE av bv _ _ _ (ha.up cx.ext) (hb.up cx.ext) (okv_of (hp6 (by cases q6 <;> first | rfl | (simp at hc)))).ok (okv_of (hp10 (by cases q6 <;> first | rfl | (simp at hc)) (by cases q6 <;> cases q10 <;> first | rfl | (simp at hc)))).ok hfa hfb (by have h1 := dfr_len (E := E) 48 [] av bv; have h2 := (okv_of (hp6 (by cases q6 <;> first | rfl | (simp at hc)))).sz48; have h3 := (okv_of (hp6 (by cases q6 <;> first | rfl | (simp at hc)))).sz; omega)) Try.func30 rfl rfl rfl (fun hc => cons_eq (gve hc rfl) (cons_eq (gve hc rfl) rfl)) ?_; intro q16 w cx hw16 hp16
          refine x_next ⟨.inr (by kernel_rfl), ?_⟩
          refine x_one (i := 13) (by kernel_rfl) rfl ?_
          refine s_gval rfl rfl rfl (by first | exact w_ff rfl | exact w_gf rfl) (fun hc => v_load rfl rfl Try.underlying33 rfl sz33 (cx.row 0 rfl) hb.len) ?_
          refine x_next ⟨.inr (by kernel_rfl), ?_⟩
          refine x_one (i := 14) (by kernel_rfl) rfl ?_
          refine s_gfn cx rfl rfl rfl (by first | exact w_ff rfl | exact w_gf rfl) (fun hc => c31 E hE av bv _ _ _ (ha.up cx.ext) (hb.up cx.ext) (okv_of (hp6 (by cases q6 <;> first | rfl | (simp at hc)))).ok (okv_of (hp10 (by cases q6 <;> first | rfl | (simp at hc)) (by cases q6 <;> cases q10 <;> first | rfl | (simp at hc)))).ok hfa hfb (by have h1 := dfr_len (E := E) 48 [] av bv; have h2 := (okv_of (hp6 (by cases q6 <;> first | rfl | (simp at hc)))).sz48; have h3 := (okv_of (hp6 (by cases q6 <;> first | rfl | (simp at hc)))).sz; omega)) Try.func31 rfl rfl rfl (fun hc => cons_eq (gve hc rfl) (cons_eq (gve hc rfl) rfl)) ?_; intro q19 w cx hw19 hp19
          replace hp16 := fun hc => (hp16 hc).up hw19
          refine x_next ⟨.inr (by kernel_rfl), ?_⟩
          refine x_one (i := 15) (by kernel_rfl) rfl ?_
          refine s_gfnB cx rfl rfl rfl (by first | exact w_ff rfl | exact w_gf rfl) (fun hc => c29p (dfr E 48 [] av bv) _ _ _ (hp16 hc) (hp19 hc) (by have h1 := dfr_len (E := E) 48 [] av bv; have h2 := (okv_of (hp6 (by cases q6 <;> first | rfl | (simp at hc)))).sz48; have h3 := (okv_of (hp6 (by cases q6 <;> first | rfl | (simp at hc)))).sz; omega) (fun p hp => by have := dfr_depth _ _ _ _ _ hp; simp at this; omega)) Try.func29 rfl rfl rfl (fun hc => cons_eq (gve hc rfl) (cons_eq (gve hc rfl) rfl)) ?_; intro q20 w cx hw20 hp20
          refine x_next ⟨.inr (by kernel_rfl), ?_⟩
          refine x_one (i := 16) (by kernel_rfl) rfl ?_
          refine s_val rfl rfl (v_or rfl rfl rfl rfl) ?_
          refine x_next ⟨.inr (by kernel_rfl), ?_⟩
          refine x_one (i := 17) (by kernel_rfl) rfl ?_
          refine s_val rfl rfl (v_assign rfl rfl) ?_
          refine x_next ⟨.inr (by kernel_rfl), ?_⟩
          refine x_done (by kernel_rfl) ?_
          refine wp_ret ?_
          refine ret_tmp Try.results7 rfl ?_
          refine ⟨cx.ext, _, rfl, ?_⟩
          show ((!q6 || !q10) || q20) = true
          cases hh : (!q6 || !q10) with
          | true => rfl
          | false => simpa using hp20 (by rw [hh]; rfl)
        · skip
          refine s_gval rfl rfl rfl (by first | exact w_ff rfl | exact w_gf rfl) (fun hc => v_load rfl rfl Try.underlying33 rfl sz33 (cx.row 0 rfl) hb.len) ?_
          refine x_next ⟨.inr (by kernel_rfl), ?_⟩
          refine x_one (i := 11) (by kernel_rfl) rfl ?_
          refine s_gfn cx rfl rfl rfl (by first | exact w_ff rfl | exact w_gf rfl) (fun hc => c30 E hE av bv _ _ _ (ha.up cx.ext) (hb.up cx.ext) (okv_of (hp6 (by cases q6 <;> first | rfl | (simp at hc)))).ok (okv_of (hp10 (by cases q6 <;> first | rfl | (simp at hc)) (by cases q6 <;> cases q10 <;> first | rfl | (simp at hc)))).ok hfa hfb (by have h1 := dfr_len (E := E) 48 [] av bv; have h2 := (okv_of (hp6 (by cases q6 <;> first | rfl | (simp at hc)))).sz48; have h3 := (okv_of (hp6 (by cases q6 <;> first | rfl | (simp at hc)))).sz; omega)) Try.func30 rfl rfl rfl (fun hc => cons_eq (gve hc rfl) (cons_eq (gve hc rfl) rfl)) ?_; intro q16 w cx hw16 hp16
          refine x_next ⟨.inr (by kernel_rfl), ?_⟩
          refine x_one (i := 14) (by kernel_rfl) rfl ?_
          refine s_gfn cx rfl rfl rfl (by first | exact w_ff rfl | exact w_gf rfl) (fun hc => c31 E hE av bv _ _ _ (ha.up cx.ext) (hb.up cx.ext) (okv_of (hp6 (by cases q6 <;> first | rfl | (simp at hc)))).ok (okv_of (hp10 (by cases q6 <;> first | rfl | (simp at hc)) (by cases q6 <;> cases q10 <;> first | rfl | (simp at hc)))).ok hfa hfb (by have h1 := dfr_len (E := E) 48 [] av bv; have h2 := (okv_of (hp6 (by cases q6 <;> first | rfl | (simp at hc)))).sz48; have h3 := (okv_of (hp6 (by cases q6 <;> first | rfl | (simp at hc)))).sz; omega)) Try.func31 rfl rfl rfl (fun hc => cons_eq (gve hc rfl) (cons_eq (gve hc rfl) rfl)) ?_; intro q19 w cx hw19 hp19
          replace hp16 := fun hc => (hp16 hc).up hw19
          refine x_next ⟨.inr (by kernel_rfl), ?_⟩
          refine x_one (i := 15) (by kernel_rfl) rfl ?_
          refine s_gfnB cx rfl rfl rfl (by first | exact w_ff rfl | exact w_gf rfl) (fun hc => c29p (dfr E 48 [] av bv) _ _ _ (hp16 hc) (hp19 hc) (by have h1 := dfr_len (E := E) 48 [] av bv; have h2 := (okv_of (hp6 (by cases q6 <;> first | rfl | (simp at hc)))).sz48; have h3 := (okv_of (hp6 (by cases q6 <;> first | rfl | (simp at hc)))).sz; omega) (fun p hp => by have := dfr_depth _ _ _ _ _ hp; simp at this; omega)) Try.func29 rfl rfl rfl (fun hc => cons_eq (gve hc rfl) (cons_eq (gve hc rfl) rfl)) ?_; intro q20 w cx hw20 hp20
          refine x_next ⟨.inr (by kernel_rfl), ?_⟩
          refine x_one (i := 16) (by kernel_rfl) rfl ?_
          refine s_val rfl rfl (v_or rfl rfl rfl rfl) ?_
          refine x_next ⟨.inr (by kernel_rfl), ?_⟩
          refine x_one (i := 17) (by kernel_rfl) rfl ?_
          refine s_val rfl rfl (v_assign rfl rfl) ?_
          refine x_next ⟨.inr (by kernel_rfl), ?_⟩
          refine x_done (by kernel_rfl) ?_
          refine wp_ret ?_
          refine ret_tmp Try.results7 rfl ?_
          refine ⟨cx.ext, _, rfl, ?_⟩
          show ((!q6 || !q10) || q20) = true
          cases hh : (!q6 || !q10) with
          | true => rfl
          | false => simpa using hp20 (by rw [hh]; rfl)
      · skip
        refine s_gval rfl rfl rfl (by first | exact w_ff rfl | exact w_gf rfl) (fun hc => v_load rfl rfl Try.underlying33 rfl sz33 (cx.row 0 rfl) hb.len) ?_
        refine x_next ⟨.inr (by kernel_rfl), ?_⟩
        refine x_one (i := 9) (by kernel_rfl) rfl ?_
        refine s_gval rfl rfl rfl (by first | exact w_ff rfl | exact w_gf rfl) (fun hc => v_load rfl rfl Try.underlying33 rfl sz33 (cx.row 1 rfl) ha.len) ?_
        refine x_next ⟨.inr (by kernel_rfl), ?_⟩
        refine x_one (i := 11) (by kernel_rfl) rfl ?_
        refine s_gfn cx rfl rfl rfl (by first | exact w_ff rfl | exact w_gf rfl) (fun hc => c30 E hE av bv _ _ _ (ha.up cx.ext) (hb.up cx.ext) (okv_of (hp6 (by cases q6 <;> first | rfl | (simp at hc)))).ok (okv_of (hp10 (by cases q6 <;> first | rfl | (simp at hc)) (by cases q6 <;> cases q10 <;> first | rfl | (simp at hc)))).ok hfa hfb (by have h1 := dfr_len (E := E) 48 [] av bv; have h2 := (okv_of (hp6 (by cases q6 <;> first | rfl | (simp at hc)))).sz48; have h3 := (okv_of (hp6 (by cases q6 <;> first | rfl | (simp at hc)))).sz; omega)) Try.func30 rfl rfl rfl (fun hc => cons_eq (gve hc rfl) (cons_eq (gve hc rfl) rfl)) ?_; intro q16 w cx hw16 hp16
        refine x_next ⟨.inr (by kernel_rfl), ?_⟩
        refine x_one (i := 14) (by kernel_rfl) rfl ?_
        refine s_gfn cx rfl rfl rfl (by first | exact w_ff rfl | exact w_gf rfl) (fun hc => c31 E hE av bv _ _ _ (ha.up cx.ext) (hb.up cx.ext) (okv_of (hp6 (by cases q6 <;> first | rfl | (simp at hc)))).ok (okv_of (hp10 (by cases q6 <;> first | rfl | (simp at hc)) (by cases q6 <;> cases q10 <;> first | rfl | (simp at hc)))).ok hfa hfb (by have h1 := dfr_len (E := E) 48 [] av bv; have h2 := (okv_of (hp6 (by cases q6 <;> first | rfl | (simp at hc)))).sz48; have h3 := (okv_of (hp6 (by cases q6 <;> first | rfl | (simp at hc)))).sz; omega)) Try.func31 rfl rfl rfl (fun hc => cons_eq (gve hc rfl) (cons_eq (gve hc rfl) rfl)) ?_; intro q19 w cx hw19 hp19
        replace hp16 := fun hc => (hp16 hc).up hw19
        refine x_next ⟨.inr (by kernel_rfl), ?_⟩
        refine x_one (i := 15) (by kernel_rfl) rfl ?_
        refine s_gfnB cx rfl rfl rfl (by first | exact w_ff rfl | exact w_gf rfl) (fun hc => c29p (dfr E 48 [] av bv) _ _ _ (hp16 hc) (hp19 hc) (by have h1 := dfr_len (E := E) 48 [] av bv; have h2 := (okv_of (hp6 (by cases q6 <;> first | rfl | (simp at hc)))).sz48; have h3 := (okv_of (hp6 (by cases q6 <;> first | rfl | (simp at hc)))).sz; omega) (fun p hp => by have := dfr_depth _ _ _ _ _ hp; simp at this; omega)) Try.func29 rfl rfl rfl (fun hc => cons_eq (gve hc rfl) (cons_eq (gve hc rfl) rfl)) ?_; intro q20 w cx hw20 hp20
        refine x_next ⟨.inr (by kernel_rfl), ?_⟩
        refine x_one (i := 16) (by kernel_rfl) rfl ?_
        refine s_val rfl rfl (v_or rfl rfl rfl rfl) ?_
        refine x_next ⟨.inr (by kernel_rfl), ?_⟩
        refine x_one (i := 17) (by kernel_rfl) rfl ?_
        refine s_val rfl rfl (v_assign rfl rfl) ?_
        refine x_next ⟨.inr (by kernel_rfl), ?_⟩
        refine x_done (by kernel_rfl) ?_
        refine wp_ret ?_
        refine ret_tmp Try.results7 rfl ?_
        refine ⟨cx.ext, _, rfl, ?_⟩
        show ((!q6 || !q10) || q20) = true
        cases hh : (!q6 || !q10) with
        | true => rfl
        | false => simpa using hp20 (by rw [hh]; rfl)
    · skip
      refine s_gval rfl rfl rfl (by first | exact w_ff rfl | exact w_gf rfl) (fun hc => v_load rfl rfl Try.underlying33 rfl sz33 (cx.row 0 rfl) hb.len) ?_
      refine x_next ⟨.inr (by kernel_rfl), ?_⟩
      refine x_two (i := 9) (j := 10) (by kernel_rfl) rfl rfl ?_ ?_
      · skip
        refine s_gval rfl rfl rfl (by first | exact w_ff rfl | exact w_gf rfl) (fun hc => v_load rfl rfl Try.underlying33 rfl sz33 (cx.row 1 rfl) ha.len) ?_
        refine x_next ⟨.inr (by kernel_rfl), ?_⟩
        refine x_one (i := 10) (by kernel_rfl) rfl ?_
        refine s_gval rfl rfl rfl (by first | exact w_ff rfl | exact w_gf rfl) (fun hc => v_load rfl rfl Try.underlying33 rfl sz33 (cx.row 0 rfl) hb.len) ?_
        refine x_next ⟨.inr (by kernel_rfl), ?_⟩
        refine x_one (i := 11) (by kernel_rfl) rfl ?_
        refine s_gfn cx rfl rfl rfl (by first | exact w_ff rfl | exact w_gf rfl) (fun hc => c30 E hE av bv _ _ _ (ha.up cx.ext) (hb.up cx.ext) (okv_of (hp6 (by cases q6 <;> first | rfl | (simp at hc)))).ok (okv_of (hp10 (by cases q6 <;> first | rfl | (simp at hc)) (by cases q6 <;> cases q10 <;> first | rfl | (simp at hc)))).ok hfa hfb (by have h1 := dfr_len (E := E) 48 [] av bv; have h2 := (okv_of (hp6 (by cases q6 <;> first | rfl | (simp at hc)))).sz48; have h3 := (okv_of (hp6 (by cases q6 <;> first | rfl | (simp at hc)))).sz; omega)) Try.func30 rfl rfl rfl (fun hc => cons_eq (gve hc rfl) (cons_eq (gve hc rfl) rfl)) ?_; intro q16 w cx hw16 hp16
        refine x_next ⟨.inr (by kernel_rfl), ?_⟩
        refine x_one (i := 14) (by kernel_rfl) rfl ?_
        refine s_gfn cx rfl rfl rfl (by first | exact w_ff rfl | exact w_gf rfl) (fun hc => c31 E hE av bv _ _ _ (ha.up cx.ext) (hb.up cx.ext) (okv_of (hp6 (by cases q6 <;> first | rfl | (simp at hc)))).ok (okv_of (hp10 (by cases q6 <;> first | rfl | (simp at hc)) (by cases q6 <;> cases q10 <;> first | rfl | (simp at hc)))).ok hfa hfb (by have h1 := dfr_len (E := E) 48 [] av bv; have h2 := (okv_of (hp6 (by cases q6 <;> first | rfl | (simp at hc)))).sz48; have h3 := (okv_of (hp6 (by cases q6 <;> first | rfl | (simp at hc)))).sz; omega)) Try.func31 rfl rfl rfl (fun hc => cons_eq (gve hc rfl) (cons_eq (gve hc rfl) rfl)) ?_; intro q19 w cx hw19 hp19
        replace hp16 := fun hc => (hp16 hc).up hw19
        refine x_next ⟨.inr (by kernel_rfl), ?_⟩
        refine x_one (i := 15) (by kernel_rfl) rfl ?_
        refine s_gfnB cx rfl rfl rfl (by first | exact w_ff rfl | exact w_gf rfl) (fun hc => c29p (dfr E 48 [] av bv) _ _ _ (hp16 hc) (hp19 hc) (by have h1 := dfr_len (E := E) 48 [] av bv; have h2 := (okv_of (hp6 (by cases q6 <;> first | rfl | (simp at hc)))).sz48; have h3 := (okv_of (hp6 (by cases q6 <;> first | rfl | (simp at hc)))).sz; omega) (fun p hp => by have := dfr_depth _ _ _ _ _ hp; simp at this; omega)) Try.func29 rfl rfl rfl (fun hc => cons_eq (gve hc rfl) (cons_eq (gve hc rfl) rfl)) ?_; intro q20 w cx hw20 hp20
        refine x_next ⟨.inr (by kernel_rfl), ?_⟩
        refine x_one (i := 16) (by kernel_rfl) rfl ?_
        refine s_val rfl rfl (v_or rfl rfl rfl rfl) ?_
        refine x_next ⟨.inr (by kernel_rfl), ?_⟩
        refine x_one (i := 17) (by kernel_rfl) rfl ?_
        refine s_val rfl rfl (v_assign rfl rfl) ?_
        refine x_next ⟨.inr (by kernel_rfl), ?_⟩
        refine x_done (by kernel_rfl) ?_
        refine wp_ret ?_
        refine ret_tmp Try.results7 rfl ?_
        refine ⟨cx.ext, _, rfl, ?_⟩
        show ((!q6 || !q10) || q20) = true
        cases hh : (!q6 || !q10) with
        | true => rfl
        | false => simpa using hp20 (by rw [hh]; rfl)
      · skip
        refine s_gval rfl rfl rfl (by first | exact w_ff rfl | exact w_gf rfl) (fun hc => v_load rfl rfl Try.underlying33 rfl sz33 (cx.row 0 rfl) hb.len) ?_
        refine x_next ⟨.inr (by kernel_rfl), ?_⟩
        refine x_one (i := 9) (by kernel_rfl) rfl ?_
        refine s_gval rfl rfl rfl (by first | exact w_ff rfl | exact w_gf rfl) (fun hc => v_load rfl rfl Try.underlying33 rfl sz33 (cx.row 1 rfl) ha.len) ?_
        refine x_next ⟨.inr (by kernel_rfl), ?_⟩
        refine x_one (i := 11) (by kernel_rfl) rfl ?_
        refine s_gfn cx rfl rfl rfl (by first | exact w_ff rfl | exact w_gf rfl) (fun hc => c30 E hE av bv _ _ _ (ha.up cx.ext) (hb.up cx.ext) (okv_of (hp6 (by cases q6 <;> first | rfl | (simp at hc)))).ok (okv_of (hp10 (by cases q6 <;> first | rfl | (simp at hc)) (by cases q6 <;> cases q10 <;> first | rfl | (simp at hc)))).ok hfa hfb (by have h1 := dfr_len (E := E) 48 [] av bv; have h2 := (okv_of (hp6 (by cases q6 <;> first | rfl | (simp at hc)))).sz48; have h3 := (okv_of (hp6 (by cases q6 <;> first | rfl | (simp at hc)))).sz; omega)) Try.func30 rfl rfl rfl (fun hc => cons_eq (gve hc rfl) (cons_eq (gve hc rfl) rfl)) ?_; intro q16 w cx hw16 hp16
        refine x_next ⟨.inr (by kernel_rfl), ?_⟩
        refine x_one (i := 14) (by kernel_rfl) rfl ?_
        refine s_gfn cx rfl rfl rfl (by first | exact w_ff rfl | exact w_gf rfl) (fun hc => c31 E hE av bv _ _ _ (ha.up cx.ext) (hb.up cx.ext) (okv_of (hp6 (by cases q6 <;> first | rfl | (simp at hc)))).ok (okv_of (hp10 (by cases q6 <;> first | rfl | (simp at hc)) (by cases q6 <;> cases q10 <;> first | rfl | (simp at hc)))).ok hfa hfb (by have h1 := dfr_len (E := E) 48 [] av bv; have h2 := (okv_of (hp6 (by cases q6 <;> first | rfl | (simp at hc)))).sz48; have h3 := (okv_of (hp6 (by cases q6 <;> first | rfl | (simp at hc)))).sz; omega)) Try.func31 rfl rfl rfl (fun hc => cons_eq (gve hc rfl) (cons_eq (gve hc rfl) rfl)) ?_; intro q19 w cx hw19 hp19
        replace hp16 := fun hc => (hp16 hc).up hw19
        refine x_next ⟨.inr (by kernel_rfl), ?_⟩
        refine x_one (i := 15) (by kernel_rfl) rfl ?_
        refine s_gfnB cx rfl rfl rfl (by first | exact w_ff rfl | exact w_gf rfl) (fun hc => c29p (dfr E 48 [] av bv) _ _ _ (hp16 hc) (hp19 hc) (by have h1 := dfr_len (E := E) 48 [] av bv; have h2 := (okv_of (hp6 (by cases q6 <;> first | rfl | (simp at hc)))).sz48; have h3 := (okv_of (hp6 (by cases q6 <;> first | rfl | (simp at hc)))).sz; omega) (fun p hp => by have := dfr_depth _ _ _ _ _ hp; simp at this; omega)) Try.func29 rfl rfl rfl (fun hc => cons_eq (gve hc rfl) (cons_eq (gve hc rfl) rfl)) ?_; intro q20 w cx hw20 hp20
        refine x_next ⟨.inr (by kernel_rfl), ?_⟩
        refine x_one (i := 16) (by kernel_rfl) rfl ?_
        refine s_val rfl rfl (v_or rfl rfl rfl rfl) ?_
        refine x_next ⟨.inr (by kernel_rfl), ?_⟩
        refine x_one (i := 17) (by kernel_rfl) rfl ?_
        refine s_val rfl rfl (v_assign rfl rfl) ?_
        refine x_next ⟨.inr (by kernel_rfl), ?_⟩
        refine x_done (by kernel_rfl) ?_
        refine wp_ret ?_
        refine ret_tmp Try.results7 rfl ?_
        refine ⟨cx.ext, _, rfl, ?_⟩
        show ((!q6 || !q10) || q20) = true
        cases hh : (!q6 || !q10) with
        | true => rfl
        | false => simpa using hp20 (by rw [hh]; rfl)
  · skip
    refine s_gval rfl rfl rfl (by first | exact w_ff rfl | exact w_gf rfl) (fun hc => v_load rfl rfl Try.underlying33 rfl sz33 (cx.row 0 rfl) hb.len) ?_
    refine x_next ⟨.inr (by kernel_rfl), ?_⟩
    refine x_three (i := 9) (j := 10) (m := 12) (by kernel_rfl) rfl rfl rfl ?_ ?_ ?_
    · skip
      refine s_gval rfl rfl rfl (by first | exact w_ff rfl | exact w_gf rfl) (fun hc => v_load rfl rfl Try.underlying33 rfl sz33 (cx.row 1 rfl) ha.len) ?_
      refine x_next ⟨.inr (by kernel_rfl), ?_⟩
      refine x_two (i := 10) (j := 12) (by kernel_rfl) rfl rfl ?_ ?_
      · skip
        refine s_gval rfl rfl rfl (by first | exact w_ff rfl | exact w_gf rfl) (fun hc => v_load rfl rfl Try.underlying33 rfl sz33 (cx.row 0 rfl) hb.len) ?_
        refine x_next ⟨.inr (by kernel_rfl), ?_⟩
        refine x_two (i := 11) (j := 12) (by kernel_rfl) rfl rfl ?_ ?_
        · skip
          refine s_gfn cx rfl rfl rfl (by first | exact w_ff rfl | exact w_gf rfl) (fun hc => c30 E hE av bv _ _ _ (ha.up cx.ext) (hb.up cx.ext) (okv_of (hp6 (by cases q6 <;> first | rfl | (simp at hc)))).ok (okv_of (hp10 (by cases q6 <;> first | rfl | (simp at hc)) (by cases q6 <;> cases q10 <;> first | rfl | (simp at hc)))).ok hfa hfb (by have h1 := dfr_len (E := E) 48 [] av bv; have h2 := (okv_of (hp6 (by cases q6 <;> first | rfl | (simp at hc)))).sz48; have h3 := (okv_of (hp6 (by cases q6 <;> first | rfl | (simp at hc)))).sz; omega)) Try.func30 rfl rfl rfl (fun hc => cons_eq (gve hc rfl) (cons_eq (gve hc rfl) rfl)) ?_; intro q16 w cx hw16 hp16
          refine x_next ⟨.inr (by kernel_rfl), ?_⟩
          refine x_one (i := 12) (by kernel_rfl) rfl ?_
          refine s_gval rfl rfl rfl (by first | exact w_ff rfl | exact w_gf rfl) (fun hc => v_load rfl rfl Try.underlying33 rfl sz33 (cx.row 1 rfl) ha.len) ?_
          refine x_next ⟨.inr (by kernel_rfl), ?_⟩
          refine x_one (i := 14) (by kernel_rfl) rfl ?_
          refine s_gfn cx rfl rfl rfl (by first | exact w_ff rfl | exact w_gf rfl) (fun hc => c31 E hE av bv _ _ _ (ha.up cx.ext) (hb.up cx.ext) (okv_of (hp6 (by cases q6 <;> first | rfl | (simp at hc)))).ok (okv_of (hp10 (by cases q6 <;> first | rfl | (simp at hc)) (by cases q6 <;> cases q10 <;> first | rfl | (simp at hc)))).ok hfa hfb (by have h1 := dfr_len (E := E) 48 [] av bv; have h2 := (okv_of (hp6 (by cases q6 <;> first | rfl | (simp at hc)))).sz48; have h3 := (okv_of (hp6 (by cases q6 <;> first | rfl | (simp at hc)))).sz; omega)) Try.func31 rfl rfl rfl (fun hc => cons_eq (gve hc rfl) (cons_eq (gve hc rfl) rfl)) ?_; intro q19 w cx hw19 hp19
          replace hp16 := fun hc => (hp16 hc).up hw19
          refine x_next ⟨.inr (by kernel_rfl), ?_⟩
          refine x_one (i := 15) (by kernel_rfl) rfl ?_
          refine s_gfnB cx rfl rfl rfl (by first | exact w_ff rfl | exact w_gf rfl) (fun hc => c29p (dfr E 48 [] av bv) _ _ _ (hp16 hc) (hp19 hc) (by have h1 := dfr_len (E := E) 48 [] av bv; have h2 := (okv_of (hp6 (by cases q6 <;> first | rfl | (simp at hc)))).sz48; have h3 := (okv_of (hp6 (by cases q6 <;> first | rfl | (simp at hc)))).sz; omega) (fun p hp => by have := dfr_depth _ _ _ _ _ hp; simp at this; omega)) Try.func29 rfl rfl rfl (fun hc => cons_eq (gve hc rfl) (cons_eq (gve hc rfl) rfl)) ?_; intro q20 w cx hw20 hp20
          refine x_next ⟨.inr (by kernel_rfl), ?_⟩
          refine x_one (i := 16) (by kernel_rfl) rfl ?_
          refine s_val rfl rfl (v_or rfl rfl rfl rfl) ?_
          refine x_next ⟨.inr (by kernel_rfl), ?_⟩
          refine x_one (i := 17) (by kernel_rfl) rfl ?_
          refine s_val rfl rfl (v_assign rfl rfl) ?_
          refine x_next ⟨.inr (by kernel_rfl), ?_⟩
          refine x_done (by kernel_rfl) ?_
          refine wp_ret ?_
          refine ret_tmp Try.results7 rfl ?_
          refine ⟨cx.ext, _, rfl, ?_⟩
          show ((!q6 || !q10) || q20) = true
          cases hh : (!q6 || !q10) with
          | true => rfl
          | false => simpa using hp20 (by rw [hh]; rfl)
        · skip
          refine s_gval rfl rfl rfl (by first | exact w_ff rfl | exact w_gf rfl) (fun hc => v_load rfl rfl Try.underlying33 rfl sz33 (cx.row 1 rfl) ha.len) ?_
          refine x_next ⟨.inr (by kernel_rfl), ?_⟩
          refine x_one (i := 11) (by kernel_rfl) rfl ?_
          refine s_gfn cx rfl rfl rfl (by first | exact w_ff rfl | exact w_gf rfl) (fun hc => c30 E hE av bv _ _ _ (ha.up cx.ext) (hb.up cx.ext) (okv_of (hp6 (by cases q6 <;> first | rfl | (simp at hc)))).ok (okv_of (hp10 (by cases q6 <;> first | rfl | (simp at hc)) (by cases q6 <;> cases q10 <;> first | rfl | (simp at hc)))).ok hfa hfb (by have h1 := dfr_len (E := E) 48 [] av bv; have h2 := (okv_of (hp6 (by cases q6 <;> first | rfl | (simp at hc)))).sz48; have h3 := (okv_of (hp6 (by cases q6 <;> first | rfl | (simp at hc)))).sz; omega)) Try.func30 rfl rfl rfl (fun hc => cons_eq (gve hc rfl) (cons_eq (gve hc rfl) rfl)) ?_; intro q16 w cx hw16 hp16
          refine x_next ⟨.inr (by kernel_rfl), ?_⟩
          refine x_one (i := 14) (by kernel_rfl) rfl ?_
          refine s_gfn cx rfl rfl rfl (by first | exact w_ff rfl | exact w_gf rfl) (fun hc => c31 E hE av bv _ _ _ (ha.up cx.ext) (hb.up cx.ext) (okv_of (hp6 (by cases q6 <;> first | rfl | (simp at hc)))).ok (okv_of (hp10 (by cases q6 <;> first | rfl | (simp at hc)) (by cases q6 <;> cases q10 <;> first | rfl | (simp at hc)))).ok hfa hfb (by have h1 := dfr_len (E := E) 48 [] av bv; have h2 := (okv_of (hp6 (by cases q6 <;> first | rfl | (simp at hc)))).sz48; have h3 := (okv_of (hp6 (by cases q6 <;> first | rfl | (simp at hc)))).sz; omega)) Try.func31 rfl rfl rfl (fun hc => cons_eq (gve hc rfl) (cons_eq (gve hc rfl) rfl)) ?_; intro q19 w cx hw19 hp19
          replace hp16 := fun hc => (hp16 hc).up hw19
          refine x_next ⟨.inr (by kernel_rfl), ?_⟩
          refine x_one (i := 15) (by kernel_rfl) rfl ?_
          refine s_gfnB cx rfl rfl rfl (by first | exact w_ff rfl | exact w_gf rfl) (fun hc => c29p (dfr E 48 [] av bv) _ _ _ (hp16 hc) (hp19 hc) (by have h1 := dfr_len (E := E) 48 [] av bv; have h2 := (okv_of (hp6 (by cases q6 <;> first | rfl | (simp at hc)))).sz48; have h3 := (okv_of (hp6 (by cases q6 <;> first | rfl | (simp at hc)))).sz; omega) (fun p hp => by have := dfr_depth _ _ _ _ _ hp; simp at this; omega)) Try.func29 rfl rfl rfl (fun hc => cons_eq (gve hc rfl) (cons_eq (gve hc rfl) rfl)) ?_; intro q20 w cx hw20 hp20
          refine x_next ⟨.inr (by kernel_rfl), ?_⟩
          refine x_one (i := 16) (by kernel_rfl) rfl ?_
          refine s_val rfl rfl (v_or rfl rfl rfl rfl) ?_
          refine x_next ⟨.inr (by kernel_rfl), ?_⟩
          refine x_one (i := 17) (by kernel_rfl) rfl ?_
          refine s_val rfl rfl (v_assign rfl rfl) ?_
          refine x_next ⟨.inr (by kernel_rfl), ?_⟩
          refine x_done (by kernel_rfl) ?_
          refine wp_ret ?_
          refine ret_tmp Try.results7 rfl ?_
          refine ⟨cx.ext, _, rfl, ?_⟩
          show ((!q6 || !q10) || q20) = true
          cases hh : (!q6 || !q10) with
          | true => rfl
          | false => simpa using hp20 (by rw [hh]; rfl)
      · skip
        refine s_gval rfl rfl rfl (by first | exact w_ff rfl | exact w_gf rfl) (fun hc => v_load rfl rfl Try.underlying33 rfl sz33 (cx.row 1 rfl) ha.len) ?_
        refine x_next ⟨.inr (by kernel_rfl), ?_⟩
        refine x_one (i := 10) (by kernel_rfl) rfl ?_
        refine s_gval rfl rfl rfl (by first | exact w_ff rfl | exact w_gf rfl) (fun hc => v_load rfl rfl Try.underlying33 rfl sz33 (cx.row 0 rfl) hb.len) ?_
        refine x_next ⟨.inr (by kernel_rfl), ?_⟩
        refine x_one (i := 11) (by kernel_rfl) rfl ?_
        refine s_gfn cx rfl rfl rfl (by first | exact w_ff rfl | exact w_gf rfl) (fun hc => c30 E hE av bv _ _ _ (ha.up cx.ext) (hb.up cx.ext) (okv_of (hp6 (by cases q6 <;> first | rfl | (simp at hc)))).ok (okv_of (hp10 (by cases q6 <;> first | rfl | (simp at hc)) (by cases q6 <;> cases q10 <;> first | rfl | (simp at hc)))).ok hfa hfb (by have h1 := dfr_len (E := E) 48 [] av bv; have h2 := (okv_of (hp6 (by cases q6 <;> first | rfl | (simp at hc)))).sz48; have h3 := (okv_of (hp6 (by cases q6 <;> first | rfl | (simp at hc)))).sz; omega)) Try.func30 rfl rfl rfl (fun hc => cons_eq (gve hc rfl) (cons_eq (gve hc rfl) rfl)) ?_; intro q16 w cx hw16 hp16
        refine x_next ⟨.inr (by kernel_rfl), ?_⟩
        refine x_one (i := 14) (by kernel_rfl) rfl ?_
        refine s_gfn cx rfl rfl rfl (by first | exact w_ff rfl | exact w_gf rfl) (fun hc => c31 E hE av bv _ _ _ (ha.up cx.ext) (hb.up cx.ext) (okv_of (hp6 (by cases q6 <;> first | rfl | (simp at hc)))).ok (okv_of (hp10 (by cases q6 <;> first | rfl | (simp at hc)) (by cases q6 <;> cases q10 <;> first | rfl | (simp at hc)))).ok hfa hfb (by have h1 := dfr_len (E := E) 48 [] av bv; have h2 := (okv_of (hp6 (by cases q6 <;> first | rfl | (simp at hc)))).sz48; have h3 := (okv_of (hp6 (by cases q6 <;> first | rfl | (simp at hc)))).sz; omega)) Try.func31 rfl rfl rfl (fun hc => cons_eq (gve hc rfl) (cons_eq (gve hc rfl) rfl)) ?_; intro q19 w cx hw19 hp19
        replace hp16 := fun hc => (hp16 hc).up hw19
        refine x_next ⟨.inr (by kernel_rfl), ?_⟩
        refine x_one (i := 15) (by kernel_rfl) rfl ?_
        refine s_gfnB cx rfl rfl rfl (by first | exact w_ff rfl | exact w_gf rfl) (fun hc => c29p (dfr E 48 [] av bv) _ _ _ (hp16 hc) (hp19 hc) (by have h1 := dfr_len (E := E) 48 [] av bv; have h2 := (okv_of (hp6 (by cases q6 <;> first | rfl | (simp at hc)))).sz48; have h3 := (okv_of (hp6 (by cases q6 <;> first | rfl | (simp at hc)))).sz; omega) (fun p hp => by have := dfr_depth _ _ _ _ _ hp; simp at this; omega)) Try.func29 rfl rfl rfl (fun hc => cons_eq (gve hc rfl) (cons_eq (gve hc rfl) rfl)) ?_; intro q20 w cx hw20 hp20
        refine x_next ⟨.inr (by kernel_rfl), ?_⟩
        refine x_one (i := 16) (by kernel_rfl) rfl ?_
        refine s_val rfl rfl (v_or rfl rfl rfl rfl) ?_
        refine x_next ⟨.inr (by kernel_rfl), ?_⟩
        refine x_one (i := 17) (by kernel_rfl) rfl ?_
        refine s_val rfl rfl (v_assign rfl rfl) ?_
        refine x_next ⟨.inr (by kernel_rfl), ?_⟩
        refine x_done (by kernel_rfl) ?_
        refine wp_ret ?_
        refine ret_tmp Try.results7 rfl ?_
        refine ⟨cx.ext, _, rfl, ?_⟩
        show ((!q6 || !q10) || q20) = true
        cases hh : (!q6 || !q10) with
        | true => rfl
        | false => simpa using hp20 (by rw [hh]; rfl)
    · skip
      refine s_gval rfl rfl rfl (by first | exact w_ff rfl | exact w_gf rfl) (fun hc => v_load rfl rfl Try.underlying33 rfl sz33 (cx.row 0 rfl) hb.len) ?_
      refine x_next ⟨.inr (by kernel_rfl), ?_⟩
      refine x_two (i := 9) (j := 12) (by kernel_rfl) rfl rfl ?_ ?_
      · skip
        refine s_gval rfl rfl rfl (by first | exact w_ff rfl | exact w_gf rfl) (fun hc => v_load rfl rfl Try.underlying33 rfl sz33 (cx.row 1 rfl) ha.len) ?_
        refine x_next ⟨.inr (by kernel_rfl), ?_⟩
        refine x_two (i := 11) (j := 12) (by kernel_rfl) rfl rfl ?_ ?_
        · skip
          refine s_gfn cx rfl rfl rfl (by first | exact w_ff rfl | exact w_gf rfl) (fun hc => c30 E hE av bv _ _ _ (ha.up cx.ext) (hb.up cx.ext) (okv_of (hp6 (by cases q6 <;> first | rfl | (simp at hc)))).ok (okv_of (hp10 (by cases q6 <;> first | rfl | (simp at hc)) (by cases q6 <;> cases q10 <;> first | rfl | (simp at hc)))).ok hfa hfb (by have h1 := dfr_len (E := E) 48 [] av bv; have h2 := (okv_of (hp6 (by cases q6 <;> first | rfl | (simp at hc)))).sz48; have h3 := (okv_of (hp6 (by cases q6 <;> first | rfl | (simp at hc)))).sz; omega)) Try.func30 rfl rfl rfl (fun hc => cons_eq (gve hc rfl) (cons_eq (gve hc rfl) rfl)) ?_; intro q16 w cx hw16 hp16
          refine x_next ⟨.inr (by kernel_rfl), ?_⟩
          refine x_one (i := 12) (by kernel_rfl) rfl ?_
          refine s_gval rfl rfl rfl (by first | exact w_ff rfl | exact w_gf rfl) (fun hc => v_load rfl rfl Try.underlying33 rfl sz33 (cx.row 1 rfl) ha.len) ?_
          refine x_next ⟨.inr (by kernel_rfl), ?_⟩
          refine x_one (i := 14) (by kernel_rfl) rfl ?_
          refine s_gfn cx rfl rfl rfl (by first | exact w_ff rfl | exact w_gf rfl) (fun hc => c31 E hE av bv _ _ _ (ha.up cx.ext) (hb.up cx.ext) (okv_of (hp6 (by cases q6 <;> first | rfl | (simp at hc)))).ok (okv_of (hp10 (by cases q6 <;> first | rfl | (simp at hc)) (by cases q6 <;> cases q10 <;> first | rfl | (simp at hc)))).ok hfa hfb (by have h1 := dfr_len (E := E) 48 [] av bv; have h2 := (okv_of (hp6 (by cases q6 <;> first | rfl | (simp at hc)))).sz48; have h3 := (okv_of (hp6 (by cases q6 <;> first | rfl | (simp at hc)))).sz; omega)) Try.func31 rfl rfl rfl (fun hc => cons_eq (gve hc rfl) (cons_eq (gve hc rfl) rfl)) ?_; intro q19 w cx hw19 hp19
          replace hp16 := fun hc => (hp16 hc).up hw19
          refine x_next ⟨.inr (by kernel_rfl), ?_⟩
          refine x_one (i := 15) (by kernel_rfl) rfl ?_
          refine s_gfnB cx rfl rfl rfl (by first | exact w_ff rfl | exact w_gf rfl) (fun hc => c29p (dfr E 48 [] av bv) _ _ _ (hp16 hc) (hp19 hc) (by have h1 := dfr_len (E := E) 48 [] av bv; have h2 := (okv_of (hp6 (by cases q6 <;> first | rfl | (simp at hc)))).sz48; have h3 := (okv_of (hp6 (by cases q6 <;> first | rfl | (simp at hc)))).sz; omega) (fun p hp => by have := dfr_depth _ _ _ _ _ hp; simp at this; omega)) Try.func29 rfl rfl rfl (fun hc => cons_eq (gve hc rfl) (cons_eq (gve hc rfl) rfl)) ?_; intro q20 w cx hw20 hp20
          refine x_next ⟨.inr (by kernel_rfl), ?_⟩
          refine x_one (i := 16) (by kernel_rfl) rfl ?_
          refine s_val rfl rfl (v_or rfl rfl rfl rfl) ?_
          refine x_next ⟨.inr (by kernel_rfl), ?_⟩
          refine x_one (i := 17) (by kernel_rfl) rfl ?_
          refine s_val rfl rfl (v_assign rfl rfl) ?_
          refine x_next ⟨.inr (by kernel_rfl), ?_⟩
          refine x_done (by kernel_rfl) ?_
          refine wp_ret ?_
          refine ret_tmp Try.results7 rfl ?_
          refine ⟨cx.ext, _, rfl, ?_⟩
          show ((!q6 || !q10) || q20) = true
          cases hh : (!q6 || !q10) with
          | true => rfl
          | false => simpa using hp20 (by rw [hh]; rfl)
        · skip
          refine s_gval rfl rfl rfl (by first | exact w_ff rfl | exact w_gf rfl) (fun hc => v_load rfl rfl Try.underlying33 rfl sz33 (cx.row 1 rfl) ha.len) ?_
          refine x_next ⟨.inr (by kernel_rfl), ?_⟩
          refine x_one (i := 11) (by kernel_rfl) rfl ?_
          refine s_gfn cx rfl rfl rfl (by first | exact w_ff rfl | exact w_gf rfl) (fun hc => c30 E hE av bv _ _ _ (ha.up cx.ext) (hb.up cx.ext) (okv_of (hp6 (by cases q6 <;> first | rfl | (simp at hc)))).ok (okv_of (hp10 (by cases q6 <;> first | rfl | (simp at hc)) (by cases q6 <;> cases q10 <;> first | rfl | (simp at hc)))).ok hfa hfb (by have h1 := dfr_len (E := E) 48 [] av bv; have h2 := (okv_of (hp6 (by cases q6 <;> first | rfl | (simp at hc)))).sz48; have h3 := (okv_of (hp6 (by cases q6 <;> first | rfl | (simp at hc)))).sz; omega)) Try.func30 rfl rfl rfl (fun hc => cons_eq (gve hc rfl) (cons_eq (gve hc rfl) rfl)) ?_; intro q16 w cx hw16 hp16
          refine x_next ⟨.inr (by kernel_rfl), ?_⟩
          refine x_one (i := 14) (by kernel_rfl) rfl ?_
          refine s_gfn cx rfl rfl rfl (by first | exact w_ff rfl | exact w_gf rfl) (fun hc => c31 E hE av bv _ _ _ (ha.up cx.ext) (hb.up cx.ext) (okv_of (hp6 (by cases q6 <;> first | rfl | (simp at hc)))).ok (okv_of (hp10 (by cases q6 <;> first | rfl | (simp at hc)) (by cases q6 <;> cases q10 <;> first | rfl | (simp at hc)))).ok hfa hfb (by have h1 := dfr_len (E := E) 48 [] av bv; have h2 := (okv_of (hp6 (by cases q6 <;> first | rfl | (simp at hc)))).sz48; have h3 := (okv_of (hp6 (by cases q6 <;> first | rfl | (simp at hc)))).sz; omega)) Try.func31 rfl rfl rfl (fun hc => cons_eq (gve hc rfl) (cons_eq (gve hc rfl) rfl)) ?_; intro q19 w cx hw19 hp19
          replace hp16 := fun hc => (hp16 hc).up hw19
          refine x_next ⟨.inr (by kernel_rfl), ?_⟩
          refine x_one (i := 15) (by kernel_rfl) rfl ?_
          refine s_gfnB cx rfl rfl rfl (by first | exact w_ff rfl | exact w_gf rfl) (fun hc => c29p (dfr E 48 [] av bv) _ _ _ (hp16 hc) (hp19 hc) (by have h1 := dfr_len (E := E) 48 [] av bv; have h2 := (okv_of (hp6 (by cases q6 <;> first | rfl | (simp at hc)))).sz48; have h3 := (okv_of (hp6 (by cases q6 <;> first | rfl | (simp at hc)))).sz; omega) (fun p hp => by have := dfr_depth _ _ _ _ _ hp; simp at this; omega)) Try.func29 rfl rfl rfl (fun hc => cons_eq (gve hc rfl) (cons_eq (gve hc rfl) rfl)) ?_; intro q20 w cx hw20 hp20
          refine x_next ⟨.inr (by kernel_rfl), ?_⟩
          refine x_one (i := 16) (by kernel_rfl) rfl ?_
          refine s_val rfl rfl (v_or rfl rfl rfl rfl) ?_
          refine x_next ⟨.inr (by kernel_rfl), ?_⟩
          refine x_one (i := 17) (by kernel_rfl) rfl ?_
          refine s_val rfl rfl (v_assign rfl rfl) ?_
          refine x_next ⟨.inr (by kernel_rfl), ?_⟩
          refine x_done (by kernel_rfl) ?_
          refine wp_ret ?_
          refine ret_tmp Try.results7 rfl ?_
          refine ⟨cx.ext, _, rfl, ?_⟩
          show ((!q6 || !q10) || q20) = true
          cases hh : (!q6 || !q10) with
          | true => rfl
          | false => simpa using hp20 (by rw [hh]; rfl)
      · skip
        refine s_gval rfl rfl rfl (by first | exact w_ff rfl | exact w_gf rfl) (fun hc => v_load rfl rfl Try.underlying33 rfl sz33 (cx.row 1 rfl) ha.len) ?_
        refine x_next ⟨.inr (by kernel_rfl), ?_⟩
        refine x_one (i := 9) (by kernel_rfl) rfl ?_
        refine s_gval rfl rfl rfl (by first | exact w_ff rfl | exact w_gf rfl) (fun hc => v_load rfl rfl Try.underlying33 rfl sz33 (cx.row 1 rfl) ha.len) ?_
        refine x_next ⟨.inr (by kernel_rfl), ?_⟩
        refine x_one (i := 11) (by kernel_rfl) rfl ?_
        refine s_gfn cx rfl rfl rfl (by first | exact w_ff rfl | exact w_gf rfl) (fun hc => c30 E hE av bv _ _ _ (ha.up cx.ext) (hb.up cx.ext) (okv_of (hp6 (by cases q6 <;> first | rfl | (simp at hc)))).ok (okv_of (hp10 (by cases q6 <;> first | rfl | (simp at hc)) (by cases q6 <;> cases q10 <;> first | rfl | (simp at hc)))).ok hfa hfb (by have h1 := dfr_len (E := E) 48 [] av bv; have h2 := (okv_of (hp6 (by cases q6 <;> first | rfl | (simp at hc)))).sz48; have h3 := (okv_of (hp6 (by cases q6 <;> first | rfl | (simp at hc)))).sz; omega)) Try.func30 rfl rfl rfl (fun hc => cons_eq (gve hc rfl) (cons_eq (gve hc rfl) rfl)) ?_; intro q16 w cx hw16 hp16
        refine x_next ⟨.inr (by kernel_rfl), ?_⟩
        refine x_one (i := 14) (by kernel_rfl) rfl ?_
        refine s_gfn cx rfl rfl rfl (by first | exact w_ff rfl | exact w_gf rfl) (fun hc => c31 E hE av bv _ _ _ (ha.up cx.ext) (hb.up cx.ext) (okv_of (hp6 (by cases q6 <;> first | rfl | (simp at hc)))).ok (okv_of (hp10 (by cases q6 <;> first | rfl | (simp at hc)) (by cases q6 <;> cases q10 <;> first | rfl | (simp at hc)))).ok hfa hfb (by have h1 := dfr_len (E := E) 48 [] av bv; have h2 := (okv_of (hp6 (by cases q6 <;> first | rfl | (simp at hc)))).sz48; have h3 := (okv_of (hp6 (by cases q6 <;> first | rfl | (simp at hc)))).sz; omega)) Try.func31 rfl rfl rfl (fun hc => cons_eq (gve hc rfl) (cons_eq (gve hc rfl) rfl)) ?_; intro q19 w cx hw19 hp19
        replace hp16 := fun hc => (hp16 hc).up hw19
        refine x_next ⟨.inr (by kernel_rfl), ?_⟩
        refine x_one (i := 15) (by kernel_rfl) rfl ?_
        refine s_gfnB cx rfl rfl rfl (by first | exact w_ff rfl | exact w_gf rfl) (fun hc => c29p (dfr E 48 [] av bv) _ _ _ (hp16 hc) (hp19 hc) (by have h1 := dfr_len (E := E) 48 [] av bv; have h2 := (okv_of (hp6 (by cases q6 <;> first | rfl | (simp at hc)))).sz48; have h3 := (okv_of (hp6 (by cases q6 <;> first | rfl | (simp at hc)))).sz; omega) (fun p hp => by have := dfr_depth _ _ _ _ _ hp; simp at this; omega)) Try.func29 rfl rfl rfl (fun hc => cons_eq (gve hc rfl) (cons_eq (gve hc rfl) rfl)) ?_; intro q20 w cx hw20 hp20
        refine x_next ⟨.inr (by kernel_rfl), ?_⟩
        refine x_one (i := 16) (by kernel_rfl) rfl ?_
        refine s_val rfl rfl (v_or rfl rfl rfl rfl) ?_
        refine x_next ⟨.inr (by kernel_rfl), ?_⟩
        refine x_one (i := 17) (by kernel_rfl) rfl ?_
        refine s_val rfl rfl (v_assign rfl rfl) ?_
        refine x_next ⟨.inr (by kernel_rfl), ?_⟩
        refine x_done (by kernel_rfl) ?_
        refine wp_ret ?_
        refine ret_tmp Try.results7 rfl ?_
        refine ⟨cx.ext, _, rfl, ?_⟩
        show ((!q6 || !q10) || q20) = true
        cases hh : (!q6 || !q10) with
        | true => rfl
        | false => simpa using hp20 (by rw [hh]; rfl)
    · skip
      refine s_gval rfl rfl rfl (by first | exact w_ff rfl | exact w_gf rfl) (fun hc => v_load rfl rfl Try.underlying33 rfl sz33 (cx.row 1 rfl) ha.len) ?_
      refine x_next ⟨.inr (by kernel_rfl), ?_⟩
      refine x_two (i := 9) (j := 10) (by kernel_rfl) rfl rfl ?_ ?_
      · skip
        refine s_gval rfl rfl rfl (by first | exact w_ff rfl | exact w_gf rfl) (fun hc => v_load rfl rfl Try.underlying33 rfl sz33 (cx.row 1 rfl) ha.len) ?_
        refine x_next ⟨.inr (by kernel_rfl), ?_⟩
        refine x_one (i := 10) (by kernel_rfl) rfl ?_
        refine s_gval rfl rfl rfl (by first | exact w_ff rfl | exact w_gf rfl) (fun hc => v_load rfl rfl Try.underlying33 rfl sz33 (cx.row 0 rfl) hb.len) ?_
        refine x_next ⟨.inr (by kernel_rfl), ?_⟩
        refine x_one (i := 11) (by kernel_rfl) rfl ?_
        refine s_gfn cx rfl rfl rfl (by first | exact w_ff rfl | exact w_gf rfl) (fun hc => c30 E hE av bv _ _ _ (ha.up cx.ext) (hb.up cx.ext) (okv_of (hp6 (by cases q6 <;> first | rfl | (simp at hc)))).ok (okv_of (hp10 (by cases q6 <;> first | rfl | (simp at hc)) (by cases q6 <;> cases q10 <;> first | rfl | (simp at hc)))).ok hfa hfb (by have h1 := dfr_len (E := E) 48 [] av bv; have h2 := (okv_of (hp6 (by cases q6 <;> first | rfl | (simp at hc)))).sz48; have h3 := (okv_of (hp6 (by cases q6 <;> first | rfl | (simp at hc)))).sz; omega)) Try.func30 rfl rfl rfl (fun hc => cons_eq (gve hc rfl) (cons_eq (gve hc rfl) rfl)) ?_; intro q16 w cx hw16 hp16
        refine x_next ⟨.inr (by kernel_rfl), ?_⟩
        refine x_one (i := 14) (by kernel_rfl) rfl ?_
        refine s_gfn cx rfl rfl rfl (by first | exact w_ff rfl | exact w_gf rfl) (fun hc => c31 E hE av bv _ _ _ (ha.up cx.ext) (hb.up cx.ext) (okv_of (hp6 (by cases q6 <;> first | rfl | (simp at hc)))).ok (okv_of (hp10 (by cases q6 <;> first | rfl | (simp at hc)) (by cases q6 <;> cases q10 <;> first | rfl | (simp at hc)))).ok hfa hfb (by have h1 := dfr_len (E := E) 48 [] av bv; have h2 := (okv_of (hp6 (by cases q6 <;> first | rfl | (simp at hc)))).sz48; have h3 := (okv_of (hp6 (by cases q6 <;> first | rfl | (simp at hc)))).sz; omega)) Try.func31 rfl rfl rfl (fun hc => cons_eq (gve hc rfl) (cons_eq (gve hc rfl) rfl)) ?_; intro q19 w cx hw19 hp19
        replace hp16 := fun hc => (hp16 hc).up hw19
        refine x_next ⟨.inr (by kernel_rfl), ?_⟩
        refine x_one (i := 15) (by kernel_rfl) rfl ?_
        refine s_gfnB cx rfl rfl rfl (by first | exact w_ff rfl | exact w_gf rfl) (fun hc => c29p (dfr E 48 [] av bv) _ _ _ (hp16 hc) (hp19 hc) (by have h1 := dfr_len (E := E) 48 [] av bv; have h2 := (okv_of (hp6 (by cases q6 <;> first | rfl | (simp at hc)))).sz48; have h3 := (okv_of (hp6 (by cases q6 <;> first | rfl | (simp at hc)))).sz; omega) (fun p hp => by have := dfr_depth _ _ _ _ _ hp; simp at this; omega)) Try.func29 rfl rfl rfl (fun hc => cons_eq (gve hc rfl) (cons_eq (gve hc rfl) rfl)) ?_; intro q20 w cx hw20 hp20
        refine x_next ⟨.inr (by kernel_rfl), ?_⟩
        refine x_one (i := 16) (by kernel_rfl) rfl ?_
        refine s_val rfl rfl (v_or rfl rfl rfl rfl) ?_
        refine x_next ⟨.inr (by kernel_rfl), ?_⟩
        refine x_one (i := 17) (by kernel_rfl) rfl ?_
        refine s_val rfl rfl (v_assign rfl rfl) ?_
        refine x_next ⟨.inr (by kernel_rfl), ?_⟩
        refine x_done (by kernel_rfl) ?_
        refine wp_ret ?_
        refine ret_tmp Try.results7 rfl ?_
        refine ⟨cx.ext, _, rfl, ?_⟩
        show ((!q6 || !q10) || q20) = true
        cases hh : (!q6 || !q10) with
        | true => rfl
        | false => simpa using hp20 (by rw [hh]; rfl)
      · skip
        refine s_gval rfl rfl rfl (by first | exact w_ff rfl | exact w_gf rfl) (fun hc => v_load rfl rfl Try.underlying33 rfl sz33 (cx.row 0 rfl) hb.len) ?_
        refine x_next ⟨.inr (by kernel_rfl), ?_⟩
        refine x_one (i := 9) (by kernel_rfl) rfl ?_
        refine s_gval rfl rfl rfl (by first | exact w_ff rfl | exact w_gf rfl) (fun hc => v_load rfl rfl Try.underlying33 rfl sz33 (cx.row 1 rfl) ha.len) ?_
        refine x_next ⟨.inr (by kernel_rfl), ?_⟩
        refine x_one (i := 11) (by kernel_rfl) rfl ?_
        refine s_gfn cx rfl rfl rfl (by first | exact w_ff rfl | exact w_gf rfl) (fun hc => c30 E hE av bv _ _ _ (ha.up cx.ext) (hb.up cx.ext) (okv_of (hp6 (by cases q6 <;> first | rfl | (simp at hc)))).ok (okv_of (hp10 (by cases q6 <;> first | rfl | (simp at hc)) (by cases q6 <;> cases q10 <;> first | rfl | (simp at hc)))).ok hfa hfb (by have h1 := dfr_len (E := E) 48 [] av bv; have h2 := (okv_of (hp6 (by cases q6 <;> first | rfl | (simp at hc)))).sz48; have h3 := (okv_of (hp6 (by cases q6 <;> first | rfl | (simp at hc)))).sz; omega)) Try.func30 rfl rfl rfl (fun hc => cons_eq (gve hc rfl) (cons_eq (gve hc rfl) rfl)) ?_; intro q16 w cx hw16 hp16
        refine x_next ⟨.inr (by kernel_rfl), ?_⟩
        refine x_one (i := 14) (by kernel_rfl) rfl ?_
        refine s_gfn cx rfl rfl rfl (by first | exact w_ff rfl | exact w_gf rfl) (fun hc => c31 E hE av bv _ _ _ (ha.up cx.ext) (hb.up cx.ext) (okv_of (hp6 (by cases q6 <;> first | rfl | (simp at hc)))).ok (okv_of (hp10 (by cases q6 <;> first | rfl | (simp at hc)) (by cases q6 <;> cases q10 <;> first | rfl | (simp at hc)))).ok hfa hfb (by have h1 := dfr_len (E := E) 48 [] av bv; have h2 := (okv_of (hp6 (by cases q6 <;> first | rfl | (simp at hc)))).sz48; have h3 := (okv_of (hp6 (by cases q6 <;> first | rfl | (simp at hc)))).sz; omega)) Try.func31 rfl rfl rfl (fun hc => cons_eq (gve hc rfl) (cons_eq (gve hc rfl) rfl)) ?_; intro q19 w cx hw19 hp19
        replace hp16 := fun hc => (hp16 hc).up hw19
        refine x_next ⟨.inr (by kernel_rfl), ?_⟩
        refine x_one (i := 15) (by kernel_rfl) rfl ?_
        refine s_gfnB cx rfl rfl rfl (by first | exact w_ff rfl | exact w_gf rfl) (fun hc => c29p (dfr E 48 [] av bv) _ _ _ (hp16 hc) (hp19 hc) (by have h1 := dfr_len (E := E) 48 [] av bv; have h2 := (okv_of (hp6 (by cases q6 <;> first | rfl | (simp at hc)))).sz48; have h3 := (okv_of (hp6 (by cases q6 <;> first | rfl | (simp at hc)))).sz; omega) (fun p hp => by have := dfr_depth _ _ _ _ _ hp; simp at this; omega)) Try.func29 rfl rfl rfl (fun hc => cons_eq (gve hc rfl) (cons_eq (gve hc rfl) rfl)) ?_; intro q20 w cx hw20 hp20
        refine x_next ⟨.inr (by kernel_rfl), ?_⟩
        refine x_one (i := 16) (by kernel_rfl) rfl ?_
        refine s_val rfl rfl (v_or rfl rfl rfl rfl) ?_
        refine x_next ⟨.inr (by kernel_rfl), ?_⟩
        refine x_one (i := 17) (by kernel_rfl) rfl ?_
        refine s_val rfl rfl (v_assign rfl rfl) ?_
        refine x_next ⟨.inr (by kernel_rfl), ?_⟩
        refine x_done (by kernel_rfl) ?_
        refine wp_ret ?_
        refine ret_tmp Try.results7 rfl ?_
        refine ⟨cx.ext, _, rfl, ?_⟩
        show ((!q6 || !q10) || q20) = true
        cases hh : (!q6 || !q10) with
        | true => rfl
        | false => simpa using hp20 (by rw [hh]; rfl)
end Go.Proofs.Ytmkihcdcgkdilaa
