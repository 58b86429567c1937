/-
  Several texts in one.
-/
import Derived.Test.YtmkihcdcgkdilaaMh
import Derived.Test.YtmkihcdcgkdilaaMe
import Derived.Test.YtmkihcdcgkdilaaCh
import Derived.Test.YtmkihcdcgkdilaaMi
import Derived.Test.YtmkihcdcgkdilaaRe
import Derived.Test.YtmkihcdcgkdilaaCb
import Derived.Test.YtmkihcdcgkdilaaRows
import Derived.WalkKit
import Derived.ProofKit
import Derived.OpenShut
import Derived.JoinedCond
section
set_option linter.unusedVariables false
set_option linter.unusedSimpArgs false
namespace Go.Dk
open Go Go.RowKit
theorem optF {A : Nat → Prop} {w : World} {s : Value} {o : OV} (h : RepL A w s o.toList) : ∃ a c b f bs ls fs, s = .slice a o.toList.length c ∧ (o.isSome = true → a = some ⟨b, f, none⟩ ∧ A b ∧ RowAt w b f (vrow (o.getD nulV).sc bs ls fs) ∧ RepV A w (o.getD nulV) (vrow (o.getD nulV).sc bs ls fs)) := by
  obtain ⟨b, f, hs, hr⟩ := h
  cases o with
  | none =>
    obtain ⟨a, c, rfl, _⟩ := hs.form
    exact ⟨a, c, 0, 0, .nilFunc, .nilFunc, .nilFunc, rfl, fun h => by cases h⟩
  | some v =>
    simp only [Option.toList_some, RepLs] at hr
    obtain ⟨⟨r, hr1, hr2⟩, _⟩ := hr
    obtain ⟨bs, ls, fs, rfl, _⟩ := hr2.open
    obtain ⟨a, c, rfl, ha⟩ := hs.form
    exact ⟨a, c, b, f, bs, ls, fs, rfl, fun _ => ⟨ha (by simp), hs.inA (by simp), hr1, hr2⟩⟩
theorem both_some {a b : OV} (h : ((((a.toList.length : Nat) : Int) == ((b.toList.length : Nat) : Int)) && !(((a.toList.length : Nat) : Int) == 0)) = true) : a.isSome = true ∧ b.isSome = true := by
  cases a <;> cases b <;> simp_all
theorem one_some {a : OV} (h : (!(((a.toList.length : Nat) : Int) == 0)) = true) : a.isSome = true := by
  cases a <;> simp_all
theorem len_some {a : OV} (h : a.isSome = true) : (0 : Int) < ((a.toList.length : Nat) : Int) := by
  cases a <;> simp_all
theorem hasF_fst {key : ByteArray} : ∀ {fs : Fs} {j : Nat} (h : j < fs.length), fs[j].1 = key → (∀ j', j' < j → ∀ kv, fs[j']? = some kv → kv.1 ≠ key) → hasF key fs = some fs[j].2
  | [], j, h, _, _ => by simp at h
  | x :: fs, 0, h, hk, _ => by
    have : x.1 = key := hk
    simp [hasF, this]
  | x :: fs, j + 1, h, hk, hno => by
    have h0 : x.1 ≠ key := hno 0 (by omega) x rfl
    have := hasF_fst (fs := fs) (j := j) (by simpa using h) (by simpa using hk) fun j' hj kv he => hno (j' + 1) (by omega) kv (by simpa using he)
    unfold hasF at this ⊢
    rw [List.find?_cons, decide_eq_false h0]
    simpa using this
theorem RepL.one1 {A : Nat → Prop} {w : World} {b : Nat} {v : V} {r : List Value} (h : RowAt w b 0 r) (hv : RepV A w v r) (hA : A b) : RepL A w (.slice (some ⟨b, 0, none⟩) 1 1) [v] :=
  ⟨b, 0, .inr ⟨_, 1, rfl, Nat.le_refl _, fun _ => ⟨rfl, hA⟩⟩, ⟨⟨r, h, hv⟩, trivial⟩⟩
theorem hasK_snoc {ks : List ByteArray} {j : Nat} {k : ByteArray} (hj : j < ks.length) : hasK (ks.take (j + 1)) k = (hasK (ks.take j) k || decide (ks[j] = k)) := by
  unfold hasK
  rw [List.take_succ_eq_append_getElem hj, List.any_append]
  simp
theorem Val.ofA {A : Nat → Prop} {w : World} {v : V} {r : List Value} (hA : ∀ b, A b → b < w.heap.size) (h : RepV A w v r) : Val w v r := RepV.mono hA (fun _ _ => rfl) _ _ h
end Go.Dk
end
section
namespace Go.Proofs.Ytmkihcdcgkdilaa
open Go Go.Dk Go.RowKit
set_option linter.unusedSimpArgs false
set_option linter.unusedVariables false
attribute [local irreducible] Go.wpList Go.Code.wp Go.bodyPost Go.wpStill Go.wpQuiet
set_option maxRecDepth 10000 in
theorem c93 (E : V → V → Bool) (hE : ∀ x y, E x y = true ↔ canon x = canon y) (A : Nat → Prop) (a b : OV) (sa sb : Value) (w0 : World) (hA : ∀ b, A b → b < w0.heap.size) (h1 : RepL A w0 sa a.toList) (h2 : RepL A w0 sb b.toList) (fa : ∀ v, a = some v → Fine v) (fb : ∀ v, b = some v → Fine v) : Fc Try.prog 93 [sa, sb] w0 (IsB fun r => r = eqO E a b) := by
  obtain ⟨a1, c1, b1, f1, bs1, ls1, fs1, rfl, hp1⟩ := optF h1
  obtain ⟨a2, c2, b2, f2, bs2, ls2, fs2, rfl, hp2⟩ := optF h2
  have ffa : a.isSome = true → Fine (a.getD nulV) := fun h => by
    cases a with
    | none => cases h
    | some v => exact fa v rfl
  have ffb : b.isSome = true → Fine (b.getD nulV) := fun h => by
    cases b with
    | none => cases h
    | some v => exact fb v rfl
  refine ret_enter Try.func93 rfl Try.ntmps93 rfl ?_
  have cx := Ctx.start w0
  refine wp_seq ?_
  refine wp_region_lit ?_
  refine s_val rfl rfl (v_assign rfl rfl) ?_
  refine wpList_nil ?_
  refine wp_seq ?_
  refine w_quiet cx mixed (by kernel_rfl) ?_
  skip
  refine q_val rfl rfl (fun w cx hwQ => v_move rfl rfl) ?_
  refine q_val rfl rfl (fun w cx hwQ => v_lenSlice rfl rfl Try.underlying91) ?_
  refine q_val rfl rfl (fun w cx hwQ => v_move rfl rfl) ?_
  refine q_val rfl rfl (fun w cx hwQ => v_lenSlice rfl rfl Try.underlying91) ?_
  refine q_val rfl rfl (fun w cx hwQ => v_cmp rfl rfl rfl rfl) ?_
  refine q_val rfl rfl (fun w cx hwQ => v_move rfl rfl) ?_
  refine q_gval rfl rfl rfl (by first | exact w_tt rfl | exact w_gt rfl) (fun hc w cx hwQ => v_move rfl (by first | exact gve hc rfl | exact gve (and_l hc) rfl | exact gve (and_l (and_l hc)) rfl | rfl)) ?_
  refine q_gval rfl rfl rfl (by first | exact w_tt rfl | exact w_gt rfl) (fun hc w cx hwQ => v_lenSlice rfl (by first | exact gve hc rfl | exact gve (and_l hc) rfl | exact gve (and_l (and_l hc)) rfl | rfl) Try.underlying91) ?_
  refine q_gval rfl rfl rfl (by first | exact w_tt rfl | exact w_gt rfl) (fun hc w cx hwQ => v_cmp rfl (by first | exact gve hc rfl | exact gve (and_l hc) rfl | exact gve (and_l (and_l hc)) rfl | rfl) rfl rfl) ?_
  refine q_gval rfl rfl rfl (by first | exact w_tt rfl | exact w_gt rfl) (fun hc w cx hwQ => v_move rfl (by first | exact gve hc rfl | exact gve (and_l hc) rfl | exact gve (and_l (and_l hc)) rfl | rfl)) ?_
  refine q_gval rfl rfl rfl (by first | exact w_ff rfl | exact w_gf rfl) (fun hc w cx hwQ => v_move rfl (by first | exact gve hc rfl | exact gve (and_l hc) rfl | exact gve (and_l (and_l hc)) rfl | rfl)) ?_
  refine q_gval rfl rfl rfl (by first | exact w_ff rfl | exact w_gf rfl) (fun hc w cx hwQ => v_ia Try.underlying91 sz33 rfl ((gve hc rfl).trans (congrArg (fun x => Value.slice x a.toList.length c1) (hp1 (both_some hc).1).1)) rfl (by omega) (len_some (both_some hc).1)) ?_
  refine q_gval rfl rfl rfl (by first | exact w_ff rfl | exact w_gf rfl) (fun hc w cx hwQ => v_load rfl (gve hc rfl) Try.underlying33 rfl sz33 ((hp1 (both_some hc).1).2.2.1.up cx.ext) rfl) ?_
  refine q_gval rfl rfl rfl (by first | exact w_ff rfl | exact w_gf rfl) (fun hc w cx hwQ => v_move rfl (by first | exact gve hc rfl | exact gve (and_l hc) rfl | exact gve (and_l (and_l hc)) rfl | rfl)) ?_
  refine q_gval rfl rfl rfl (by first | exact w_ff rfl | exact w_gf rfl) (fun hc w cx hwQ => v_ia Try.underlying91 sz33 rfl ((gve hc rfl).trans (congrArg (fun x => Value.slice x b.toList.length c2) (hp2 (both_some hc).2).1)) rfl (by omega) (len_some (both_some hc).2)) ?_
  refine q_gval rfl rfl rfl (by first | exact w_ff rfl | exact w_gf rfl) (fun hc w cx hwQ => v_load rfl (gve hc rfl) Try.underlying33 rfl sz33 ((hp2 (both_some hc).2).2.2.1.up cx.ext) rfl) ?_
  refine q_gcall (v := .bool (E (a.getD nulV) (b.getD nulV))) rfl rfl rfl (by first | exact w_ff rfl | exact w_gf rfl) (fun hc => runs_fn Try.func27 rfl rfl rfl (cons_eq (gve hc rfl) (cons_eq (gve hc rfl) rfl))) (fun hc w cx hwQ => (c27 _ _ _ _ _ (ffa (both_some hc).1) (ffb (both_some hc).2) ((Val.ofA hA (hp1 (both_some hc).1).2.2.2).up cx.ext) ((Val.ofA hA (hp2 (both_some hc).2).2.2.2).up cx.ext)).det fun b hb => Bool.eq_iff_iff.2 (hb.trans (hE _ _).symm)) ?_
  refine q_gval rfl rfl rfl (by first | exact w_tt rfl | exact w_gt rfl) (fun hc w cx hwQ => v_or_g hc rfl rfl rfl rfl) ?_
  refine q_val rfl rfl (fun w cx hwQ => v_and rfl rfl rfl rfl) ?_
  refine q_val rfl rfl (fun w cx hwQ => v_assign rfl rfl) ?_
  refine q_nil ?_; rintro w ⟨cx, hwQ1⟩
  refine wp_ret ?_
  refine ret_tmp Try.results93 rfl ?_
  refine ⟨cx.ext, _, rfl, ?_⟩
  cases a <;> cases b <;> simp [eqO]

set_option maxRecDepth 10000 in
theorem c122 (A : Nat → Prop) (o : OV) (s : Value) (key : ByteArray) (w0 : World) (hA : ∀ b, A b → b < w0.heap.size) (h1 : RepL A w0 s o.toList) (ho : ∀ v, o = some v → Fine v) : Fc Try.prog 122 [s, .string key] w0 (fun y w' => RepL (fun b => A b ∨ Fr w0 w' b) w' y (fieldO key o).toList) := by
  obtain ⟨a1, c1, b1, f1, bs1, ls1, fs1, rfl, hp1⟩ := optF h1
  refine ret_enter Try.func122 rfl Try.ntmps122 rfl ?_
  have cx := Ctx.start w0
  refine wp_seq ?_
  refine wp_region_lit ?_
  refine s_val rfl rfl (v_assign rfl rfl) ?_
  refine wpList_nil ?_
  refine wp_seq ?_
  refine wp_seq ?_
  refine wp_region_lit ?_
  refine s_val rfl rfl (v_move rfl rfl) ?_
  refine s_val rfl rfl (v_lenSlice rfl rfl Try.underlying91) ?_
  refine s_val rfl rfl (v_cmp rfl rfl rfl rfl) ?_
  refine s_val rfl rfl (v_move rfl rfl) ?_
  refine s_gval rfl rfl rfl (by first | exact w_ff rfl | exact w_gf rfl) (fun hc => v_move rfl (by first | exact gve hc rfl | exact gve (and_l hc) rfl | exact gve (and_l (and_l hc)) rfl | rfl)) ?_
  refine s_gval rfl rfl rfl (by first | exact w_ff rfl | exact w_gf rfl) (fun hc => v_ia Try.underlying91 sz33 rfl ((gve hc rfl).trans (congrArg (fun x => Value.slice x o.toList.length c1) (hp1 (one_some hc)).1)) rfl (by omega) (len_some (one_some hc))) ?_
  refine s_gval rfl rfl rfl (by first | exact w_ff rfl | exact w_gf rfl) (fun hc => v_fa fa33_0 rfl (gve hc rfl)) ?_
  refine s_gval rfl rfl rfl (by first | exact w_ff rfl | exact w_gf rfl) (fun hc => v_load1 rfl (gve hc rfl) Try.underlying3 rfl (((hp1 (one_some hc)).2.2.1.up cx.ext).cell 0 rfl)) ?_
  refine s_gval rfl rfl rfl (by first | exact w_ff rfl | exact w_gf rfl) (fun hc => v_cmp rfl (gve hc rfl) rfl rfl) ?_
  refine s_val rfl rfl (v_or rfl rfl rfl rfl) ?_
  refine wpList_nil ?_
  refine c_split rfl (fun hc15 => ?_) (fun hc15 => ?_)
  · skip
    skip
    refine wp_seq ?_
    refine wp_region_lit ?_
    refine s_val rfl rfl (v_assign rfl rfl) ?_
    refine wpList_nil ?_
    refine wp_ret ?_
    refine ret_tmp Try.results122 rfl ?_
    refine ⟨cx.ext, ?_⟩
    have e : fieldO key o = none := by
      cases o with
      | none => rfl
      | some v => simp only [fieldO]; rw [if_neg]; intro h; simp_all
    rw [e]; exact repL_nil
  · skip
    skip
    simp only [Bool.or_eq_false_iff] at hc15
    have h1s : o.isSome = true := by cases o <;> simp_all
    obtain ⟨v, rfl⟩ := Option.isSome_iff_exists.1 h1s
    have h7 : v.sc.kind = 7 := by have := hc15.2; simpa using this
    obtain ⟨rfl, hF1, hr1, hv1⟩ := hp1 rfl
    have hfl := (ho v rfl).self.2.2.2.2
    refine wp_skip ?_
    refine wp_seq ?_
    refine wp_seq ?_
    refine wp_region_lit ?_
    have hO1 := hv1.open
    obtain ⟨_, _, _, e1, _, _, hrf⟩ := hO1
    obtain ⟨rfl, rfl, rfl⟩ : _ ∧ _ ∧ fs1 = _ := by simpa [vrow] using e1
    have hfldv : Fld w0 fs1 v.fields := RepF.mono hA (fun _ _ => rfl) hrf
    obtain ⟨fb, fo, hfsl, hfreps⟩ := id hrf
    have hO2 := hfsl.form
    obtain ⟨fa, fc, rfl, hfa⟩ := hO2
    have hfget := fun i kv h => RepFs.get v.fields fo i kv hfreps h
    refine s_val rfl rfl (v_move rfl rfl) ?_
    refine s_val rfl rfl (v_ia Try.underlying91 sz33 rfl rfl rfl (by omega) (len_some rfl)) ?_
    refine s_val rfl rfl (v_fa fa33_7 rfl rfl) ?_
    refine s_val rfl rfl (v_load1 rfl rfl Try.underlying31 rfl ((hr1.up cx.ext).cell 12 rfl)) ?_
    refine s_val rfl rfl (v_move rfl rfl) ?_
    refine s_fnI cx (c51 v.fields _ key _ (Fld.up cx.ext hfldv) hfl) Try.func51 rfl rfl rfl rfl rfl rfl ?_; intro q21 w cx hw21 hp21
    refine s_val rfl rfl (v_assign rfl rfl) ?_
    refine wpList_nil ?_
    refine wp_seq ?_
    refine wp_region_lit ?_
    refine s_val rfl rfl (v_move rfl rfl) ?_
    refine s_val rfl rfl (v_cmp rfl rfl rfl rfl) ?_
    refine wpList_nil ?_
    refine c_split rfl (fun hc23 => ?_) (fun hc23 => ?_)
    · skip
      try simp only [Bool.and_eq_true, Bool.or_eq_true, Bool.and_eq_false_iff, Bool.or_eq_false_iff, Bool.not_eq_true', Bool.not_eq_false', decide_eq_true_eq, decide_eq_false_iff_not, beq_iff_eq, beq_eq_false_iff_ne, bne_iff_ne, bne_eq_false_iff_eq, ne_eq, Classical.not_not] at hc23
      obtain ⟨j, hjl, rfl, hkj, hno⟩ : ∃ j, ∃ h : j < v.fields.length, q21 = j ∧ v.fields[j].1 = key ∧ ∀ j', j' < j → ∀ kv, v.fields[j']? = some kv → kv.1 ≠ key := by
        rcases hp21 with h | ⟨h, _⟩
        · exact h
        · omega
      obtain rfl := hfa (show 0 < v.fields.length by omega)
      obtain ⟨r, hr, hrv⟩ := hfget j v.fields[j] (List.getElem?_eq_getElem hjl)
      obtain ⟨ebs, els, efs, rfl, _⟩ := hrv.open
      refine wp_seq ?_
      refine wp_region_lit ?_
      refine s_val rfl rfl (v_move rfl rfl) ?_
      refine s_val rfl rfl (v_ia Try.underlying91 sz33 rfl rfl rfl (by omega) (len_some rfl)) ?_
      refine s_val rfl rfl (v_fa fa33_7 rfl rfl) ?_
      refine s_val rfl rfl (v_load1 rfl rfl Try.underlying31 rfl ((hr1.up cx.ext).cell 12 rfl)) ?_
      refine s_val rfl rfl (v_move rfl rfl) ?_
      refine s_val rfl rfl (v_ia (m := ((j : Nat) : Int)) (len := v.fields.length) Try.underlying31 sz77 rfl rfl rfl (by omega) (Int.ofNat_lt.2 hjl)) ?_
      refine s_val rfl rfl (v_fa fa77_1 rfl rfl) ?_
      refine s_val rfl rfl (v_load rfl rfl Try.underlying33 rfl sz33 ((hr.up cx.ext).tail) rfl) ?_
      refine s_bsl1 cx Try.underlying91 sz33 z33 rfl rfl rfl rfl rfl rfl rfl rfl ?_; intro b32 w cx hb32 hw32
      refine s_val rfl rfl (v_assign rfl rfl) ?_
      refine wpList_nil ?_
      refine wp_ret ?_
      refine ret_tmp Try.results122 rfl ?_
      refine ⟨cx.ext, ?_⟩
      have e : fieldO key (some v) = some v.fields[j].2 := by simp only [fieldO, if_pos h7]; exact hasF_fst hjl hkj hno
      rw [e]
      exact RepL.one1 (cx.row 0 rfl) (RepV.mono (fun b hb => .inl hb) (fun b hb => cx.ext.block b (hA b hb)) _ _ hrv) (.inr cx.fr0)
    · skip
      try simp only [Bool.and_eq_true, Bool.or_eq_true, Bool.and_eq_false_iff, Bool.or_eq_false_iff, Bool.not_eq_true', Bool.not_eq_false', decide_eq_true_eq, decide_eq_false_iff_not, beq_iff_eq, beq_eq_false_iff_ne, bne_iff_ne, bne_eq_false_iff_eq, ne_eq, Classical.not_not] at hc23
      refine wp_skip ?_
      refine wp_seq ?_
      refine wp_region_lit ?_
      refine s_val rfl rfl (v_assign rfl rfl) ?_
      refine wpList_nil ?_
      refine wp_ret ?_
      refine ret_tmp Try.results122 rfl ?_
      refine ⟨cx.ext, ?_⟩
      have e : fieldO key (some v) = none := by
        simp only [fieldO, if_pos h7]
        rcases hp21 with ⟨j, h, hm, _⟩ | ⟨_, hno⟩
        · omega
        · exact hasF_none fun j kv hj => hno j kv hj
      rw [e]; exact repL_nil

set_option maxRecDepth 10000 in
set_option maxHeartbeats 6400000 in
theorem c121 (A : Nat → Prop) (m : Nat) (hm : m ≤ 300000) (b o t : OV) (x1 x2 x3 : Value) (kb : Nat) (w0 : World) (hA : ∀ b, A b → b < w0.heap.size) (hk : RowAt w0 kb 0 [x2, x3, x1]) (hb : RepL A w0 x1 b.toList) (ho : RepL A w0 x2 o.toList) (ht : RepL A w0 x3 t.toList) (lb : (fsO b).length ≤ m) (lo : (fsO o).length ≤ m) (lt : (fsO t).length ≤ m) : Fc Try.prog 121 [.slice (some ⟨kb, 0, none⟩) 3 3] w0 (fun y w' => w'.ownsRow w0.heap.size 9 1 y (keysO b o t).length ((keysO b o t).map Value.string)) := by
  refine ret_enter Try.func121 rfl Try.ntmps121 rfl ?_
  have cx := Ctx.start w0
  refine wp_seq ?_
  refine wp_region_lit ?_
  refine s_val rfl rfl (v_assign rfl rfl) ?_
  refine wpList_nil ?_
  refine wp_seq ?_
  refine wp_region_lit ?_
  refine s_val rfl rfl (v_assign rfl rfl) ?_
  refine wpList_nil ?_
  refine wp_seq ?_
  refine wp_seq ?_
  refine wp_region_lit ?_
  replace cx := cx.nilRow 9 1
  refine s_val rfl rfl (v_assign rfl rfl) ?_
  refine wpList_nil ?_
  refine wp_block ?_
  refine w_loop (fun k f w1 => ∃ (n : Nat) (x : Value), k + n = 3 ∧ f 0 = .slice (some ⟨kb, 0, none⟩) 3 3 ∧ f 3 = x ∧ f 4 = .int .i64 (n : Nat) ∧ Cxr w0 w1 [] [⟨9, 1, x, ((keysOf ((([o, t, b] : List OV).take n).flatMap fsO)).foldl addK []).length, ((keysOf ((([o, t, b] : List OV).take n).flatMap fsO)).foldl addK []).map Value.string⟩]) (3) ?_ ?_
  · skip
    exact ⟨0, _, rfl, rfl, rfl, rfl, cx⟩
  intro gk3 f w hJ
  obtain ⟨n, x, hkn, hs0, hs3, hs4, cx⟩ := hJ
  refine wp_seq ?_
  refine wp_seq ?_
  refine wp_region_lit ?_
  refine s_val rfl rfl (v_move rfl hs4) ?_
  refine s_val rfl rfl (v_move rfl hs0) ?_
  refine s_val rfl rfl (v_lenSlice rfl rfl Try.underlying162) ?_
  refine s_val rfl rfl (v_cmp rfl rfl rfl rfl) ?_
  refine wpList_nil ?_
  refine c_split rfl (fun hc12 => ?_) (fun hc12 => ?_)
  · skip
    try simp only [Bool.and_eq_true, Bool.or_eq_true, Bool.and_eq_false_iff, Bool.or_eq_false_iff, Bool.not_eq_true', Bool.not_eq_false', decide_eq_true_eq, decide_eq_false_iff_not, beq_iff_eq, beq_eq_false_iff_ne, bne_iff_ne, bne_eq_false_iff_eq, ne_eq, Classical.not_not] at hc12
    obtain ⟨pv, cur, hcell, hcur, hgc, hfl⟩ : ∃ pv cur, ([x2, x3, x1] : List Value)[n]? = some pv ∧ RepL A w0 pv (cur : OV).toList ∧ (fsO cur).length ≤ m ∧ (([o, t, b] : List OV).take (n + 1)).flatMap fsO = (([o, t, b] : List OV).take n).flatMap fsO ++ fsO cur := by
      have hn : n = 0 ∨ n = 1 ∨ n = 2 := by omega
      rcases hn with rfl | rfl | rfl
      · exact ⟨x2, o, rfl, ho, lo, by simp⟩
      · exact ⟨x3, t, rfl, ht, lt, by simp⟩
      · exact ⟨x1, b, rfl, hb, lb, by simp⟩
    obtain ⟨ca, cc, cb, cf, cbs, cls, cfs, rfl, hpc⟩ := optF hcur
    have hpl : ((keysOf ((([o, t, b] : List OV).take n).flatMap fsO))).length ≤ 3 * m := by
      have hn : n = 0 ∨ n = 1 ∨ n = 2 := by omega
      rcases hn with rfl | rfl | rfl <;> simp [keysOf] <;> omega
    have hfsc : fsO cur = (cur.getD nulV).fields := by cases cur <;> rfl
    obtain ⟨fa, fc, fb, fo, hfe, hfa, hfget⟩ : ∃ fa fc fb fo, (cur.isSome = true → cfs = .slice fa (fsO cur).length fc) ∧ (cur.isSome = true → 0 < (fsO cur).length → fa = some ⟨fb, fo, none⟩) ∧ (cur.isSome = true → ∀ i kv, (fsO cur)[i]? = some kv → ∃ r, RowAt w0 fb (fo + i * 14) (.string kv.1 :: r)) := by
      cases cur with
      | none => exact ⟨none, 0, 0, 0, (fun h => by cases h), (fun h => by cases h), fun h => by cases h⟩
      | some v =>
        obtain ⟨_, _, _, hv⟩ := hpc rfl
        obtain ⟨_, _, _, e1, _, _, hrf⟩ := hv.open
        obtain ⟨rfl, rfl, rfl⟩ : _ ∧ _ ∧ cfs = _ := by simpa [vrow] using e1
        obtain ⟨fb, fo, hfsl, hfreps⟩ := id hrf
        obtain ⟨fa, fc, e2, hfa⟩ := hfsl.form
        exact ⟨fa, fc, fb, fo, fun _ => e2, fun _ => hfa, fun _ i kv h => by
          obtain ⟨r, h1, _⟩ := RepFs.get v.fields fo i kv hfreps h
          exact ⟨r, h1⟩⟩
    refine wp_skip ?_
    refine wp_seq ?_
    refine wp_block ?_
    refine wp_seq ?_
    refine wp_region_lit ?_
    refine s_val rfl rfl (v_assign rfl rfl) ?_
    refine wpList_nil ?_
    refine wp_block ?_
    refine w_loop (fun k f w1 => ∃ (i : Nat) (x : Value), k + i = (fsO cur).length ∧ f 0 = .slice (some ⟨kb, 0, none⟩) 3 3 ∧ f 3 = x ∧ f 4 = .int .i64 (n : Nat) ∧ f 5 = .int .i64 (i : Nat) ∧ Cxr w0 w1 [] [⟨9, 1, x, ((keysOf ((([o, t, b] : List OV).take n).flatMap fsO) ++ (keysOf (fsO cur)).take i).foldl addK []).length, ((keysOf ((([o, t, b] : List OV).take n).flatMap fsO) ++ (keysOf (fsO cur)).take i).foldl addK []).map Value.string⟩]) ((fsO cur).length) ?_ ?_
    · skip
      exact ⟨0, x, by omega, hs0, hs3, hs4, rfl, by rw [List.take_zero, List.append_nil]; exact cx⟩
    intro gk6 f w hJ
    obtain ⟨i, x, hki, hs0, hs3, hs4, hs5, cx⟩ := hJ
    refine wp_seq ?_
    refine wp_seq ?_
    refine wp_region_lit ?_
    refine s_val rfl rfl (v_move rfl hs0) ?_
    refine s_val rfl rfl (v_move rfl hs4) ?_
    refine s_val rfl rfl (v_ia Try.underlying162 sz91 rfl rfl rfl (by omega) (by omega)) ?_
    refine s_val rfl rfl (v_load1 rfl rfl Try.underlying91 rfl ((hk.up cx.ext) _ _ (by rw [Int.toNat_natCast, Nat.mul_one]; exact hcell))) ?_
    refine s_val rfl rfl (v_lenSlice rfl rfl Try.underlying91) ?_
    refine s_val rfl rfl (v_cmp rfl rfl rfl rfl) ?_
    refine s_val rfl rfl (v_move rfl rfl) ?_
    refine s_gval rfl rfl rfl (by first | exact w_tt rfl | exact w_gt rfl) (fun hc => v_move rfl hs5) ?_
    refine s_gval rfl rfl rfl (by first | exact w_tt rfl | exact w_gt rfl) (fun hc => v_move rfl hs0) ?_
    refine s_gval rfl rfl rfl (by first | exact w_tt rfl | exact w_gt rfl) (fun hc => v_move rfl hs4) ?_
    refine s_gval rfl rfl rfl (by first | exact w_tt rfl | exact w_gt rfl) (fun hc => v_ia Try.underlying162 sz91 rfl (gve hc rfl) (gve hc rfl) (by omega) (by omega)) ?_
    refine s_gval rfl rfl rfl (by first | exact w_tt rfl | exact w_gt rfl) (fun hc => v_load1 rfl (gve hc rfl) Try.underlying91 rfl ((hk.up cx.ext) _ _ (by rw [Int.toNat_natCast, Nat.mul_one]; exact hcell))) ?_
    refine s_gval rfl rfl rfl (by first | exact w_tt rfl | exact w_gt rfl) (fun hc => v_ia Try.underlying91 sz33 rfl ((gve hc rfl).trans (congrArg (fun x => Value.slice x cur.toList.length cc) (hpc (by cases cur <;> simp_all)).1)) rfl (by omega) (len_some (by cases cur <;> simp_all))) ?_
    refine s_gval rfl rfl rfl (by first | exact w_tt rfl | exact w_gt rfl) (fun hc => v_fa fa33_7 rfl (gve hc rfl)) ?_
    refine s_gval rfl rfl rfl (by first | exact w_tt rfl | exact w_gt rfl) (fun hc => v_load1 rfl (gve hc rfl) Try.underlying31 rfl (((hpc (by cases cur <;> simp_all)).2.2.1.up cx.ext).cell 12 rfl)) ?_
    refine s_gval rfl rfl rfl (by first | exact w_tt rfl | exact w_gt rfl) (fun hc => v_lenSlice rfl ((gve hc rfl).trans (hfe (by cases cur <;> simp_all))) Try.underlying31) ?_
    refine s_gval rfl rfl rfl (by first | exact w_tt rfl | exact w_gt rfl) (fun hc => v_cmp rfl (by first | exact gve hc rfl | exact gve (and_l hc) rfl | exact gve (and_l (and_l hc)) rfl | rfl) (by first | exact gve hc rfl | exact gve (and_l hc) rfl | exact gve (and_l (and_l hc)) rfl | rfl) rfl) ?_
    refine s_val rfl rfl (v_and rfl rfl rfl rfl) ?_
    refine wpList_nil ?_
    refine c_split rfl (fun hc32 => ?_) (fun hc32 => ?_)
    · skip
      skip
      have hcs : cur.isSome = true := by have := and_l hc32; cases cur <;> simp_all
      have hil : i < (fsO cur).length := by have := and_r hc32; simpa using this
      obtain ⟨rfl, hFc, hrc, hvc⟩ := hpc hcs
      obtain rfl := hfe hcs
      obtain rfl := hfa hcs (by omega)
      obtain ⟨r, hfr⟩ := hfget hcs i _ (List.getElem?_eq_getElem hil)
      have hpi : (keysOf ((([o, t, b] : List OV).take n).flatMap fsO) ++ (keysOf (fsO cur)).take i).length ≤ 4 * m := by
        rw [List.length_append, List.length_take]
        simp only [keysOf, List.length_map] at hpl ⊢
        omega
      have hksl := foldK_len (keysOf ((([o, t, b] : List OV).take n).flatMap fsO) ++ (keysOf (fsO cur)).take i) []
      rw [List.length_nil, Nat.zero_add] at hksl
      have htk : keysOf ((([o, t, b] : List OV).take n).flatMap fsO) ++ (keysOf (fsO cur)).take (i + 1) = (keysOf ((([o, t, b] : List OV).take n).flatMap fsO) ++ (keysOf (fsO cur)).take i) ++ [(fsO cur)[i].1] := by rw [keys_takeS hil, List.append_assoc]
      obtain ⟨xa, xc, rfl, hxr⟩ := cx.ownRow
      refine wp_skip ?_
      refine wp_seq ?_
      refine wp_block ?_
      refine wp_seq ?_
      refine wp_region_lit ?_
      refine s_val rfl rfl (v_move rfl hs0) ?_
      refine s_val rfl rfl (v_move rfl hs4) ?_
      refine s_val rfl rfl (v_ia Try.underlying162 sz91 rfl rfl rfl (by omega) (by omega)) ?_
      refine s_val rfl rfl (v_load1 rfl rfl Try.underlying91 rfl ((hk.up cx.ext) _ _ (by rw [Int.toNat_natCast, Nat.mul_one]; exact hcell))) ?_
      refine s_val rfl rfl (v_ia Try.underlying91 sz33 rfl rfl rfl (by omega) (len_some hcs)) ?_
      refine s_val rfl rfl (v_fa fa33_7 rfl rfl) ?_
      refine s_val rfl rfl (v_load1 rfl rfl Try.underlying31 rfl ((hrc.up cx.ext).cell 12 rfl)) ?_
      refine s_val rfl rfl (v_move rfl hs5) ?_
      refine s_val rfl rfl (v_ia Try.underlying31 sz77 rfl rfl rfl (by omega) (by omega)) ?_
      refine s_val rfl rfl (v_fa fa77_0 rfl rfl) ?_
      refine s_val rfl rfl (v_load1 rfl rfl Try.underlying9 rfl ((hfr.up cx.ext).cell 0 rfl)) ?_
      refine s_val rfl rfl (v_assign rfl rfl) ?_
      refine wpList_nil ?_
      refine wp_seq ?_
      refine wp_region_lit ?_
      refine s_val rfl rfl (v_assign rfl rfl) ?_
      refine wpList_nil ?_
      refine wp_seq ?_
      refine wp_seq ?_
      refine wp_region_lit ?_
      refine s_val rfl rfl (v_assign rfl rfl) ?_
      refine wpList_nil ?_
      refine wp_block ?_
      refine w_loop (fun k f w1 => ∃ (j : Nat), k + j = ((keysOf ((([o, t, b] : List OV).take n).flatMap fsO) ++ (keysOf (fsO cur)).take i).foldl addK []).length ∧ f 0 = .slice (some ⟨kb, 0, none⟩) 3 3 ∧ f 3 = .slice xa ((keysOf ((([o, t, b] : List OV).take n).flatMap fsO) ++ (keysOf (fsO cur)).take i).foldl addK []).length xc ∧ f 4 = .int .i64 (n : Nat) ∧ f 5 = .int .i64 (i : Nat) ∧ f 6 = .string (fsO cur)[i].1 ∧ f 7 = .bool (hasK (((keysOf ((([o, t, b] : List OV).take n).flatMap fsO) ++ (keysOf (fsO cur)).take i).foldl addK []).take j) (fsO cur)[i].1) ∧ f 8 = .int .i64 (j : Nat) ∧ Cxr w0 w1 [] [⟨9, 1, .slice xa ((keysOf ((([o, t, b] : List OV).take n).flatMap fsO) ++ (keysOf (fsO cur)).take i).foldl addK []).length xc, ((keysOf ((([o, t, b] : List OV).take n).flatMap fsO) ++ (keysOf (fsO cur)).take i).foldl addK []).length, ((keysOf ((([o, t, b] : List OV).take n).flatMap fsO) ++ (keysOf (fsO cur)).take i).foldl addK []).map Value.string⟩]) (((keysOf ((([o, t, b] : List OV).take n).flatMap fsO) ++ (keysOf (fsO cur)).take i).foldl addK []).length) ?_ ?_
      · skip
        exact ⟨0, by omega, hs0, hs3, hs4, hs5, rfl, rfl, rfl, cx⟩
      intro gk11 f w hJ
      obtain ⟨j, hkj, hs0, hs3, hs4, hs5, hs6, hs7, hs8, cx⟩ := hJ
      refine wp_seq ?_
      refine wp_seq ?_
      refine wp_region_lit ?_
      refine s_val rfl rfl (v_move rfl hs8) ?_
      refine s_val rfl rfl (v_move rfl hs3) ?_
      refine s_val rfl rfl (v_lenSlice rfl rfl Try.underlying123) ?_
      refine s_val rfl rfl (v_cmp rfl rfl rfl rfl) ?_
      refine wpList_nil ?_
      refine c_split rfl (fun hc49 => ?_) (fun hc49 => ?_)
      · skip
        try simp only [Bool.and_eq_true, Bool.or_eq_true, Bool.and_eq_false_iff, Bool.or_eq_false_iff, Bool.not_eq_true', Bool.not_eq_false', decide_eq_true_eq, decide_eq_false_iff_not, beq_iff_eq, beq_eq_false_iff_ne, bne_iff_ne, bne_eq_false_iff_eq, ne_eq, Classical.not_not] at hc49
        have hjl : j < ((keysOf ((([o, t, b] : List OV).take n).flatMap fsO) ++ (keysOf (fsO cur)).take i).foldl addK []).length := by omega
        obtain ⟨g, rfl, _⟩ := hxr (by omega)
        have hxg := cx.rowOf (by omega)
        refine wp_skip ?_
        refine wp_seq ?_
        refine wp_block ?_
        refine wp_region_lit ?_
        refine s_val rfl rfl (v_move rfl hs7) ?_
        refine s_val rfl rfl (v_move rfl rfl) ?_
        refine s_gval rfl rfl rfl (by first | exact w_ff rfl | exact w_gf rfl) (fun hc => v_move rfl hs3) ?_
        refine s_gval rfl rfl rfl (by first | exact w_ff rfl | exact w_gf rfl) (fun hc => v_move rfl hs8) ?_
        refine s_gval rfl rfl rfl (by first | exact w_ff rfl | exact w_gf rfl) (fun hc => v_ia Try.underlying123 sz9 rfl (gve hc rfl) (gve hc rfl) (by omega) (by omega)) ?_
        refine s_gval rfl rfl rfl (by first | exact w_ff rfl | exact w_gf rfl) (fun hc => v_load1 rfl (gve hc rfl) Try.underlying9 rfl (hxg (((j : Nat) : Int).toNat * 1) (.string ((keysOf ((([o, t, b] : List OV).take n).flatMap fsO) ++ (keysOf (fsO cur)).take i).foldl addK [])[j]) (by rw [Int.toNat_natCast, Nat.mul_one]; simp [hjl]))) ?_
        refine s_gval rfl rfl rfl (by first | exact w_ff rfl | exact w_gf rfl) (fun hc => v_move rfl hs6) ?_
        refine s_gval rfl rfl rfl (by first | exact w_ff rfl | exact w_gf rfl) (fun hc => v_strEq rfl (gve hc rfl) (gve hc rfl)) ?_
        refine s_val rfl rfl (v_or rfl rfl rfl rfl) ?_
        refine s_val rfl rfl (v_assign rfl rfl) ?_
        refine wpList_nil ?_
        refine wp_region_lit ?_
        refine s_val rfl rfl (v_move rfl hs8) ?_
        refine s_val rfl rfl (v_add rfl rfl rfl (by omega) (by omega)) ?_
        refine s_val rfl rfl (v_assign rfl rfl) ?_
        refine wpList_nil ?_
        refine ⟨gk11 - 1, _, by omega, rfl, j + 1, by omega, hs0, hs3, hs4, hs5, hs6, ?_, rfl, cx⟩
        rw [hasK_snoc hjl]; rfl
      · skip
        try simp only [Bool.and_eq_true, Bool.or_eq_true, Bool.and_eq_false_iff, Bool.or_eq_false_iff, Bool.not_eq_true', Bool.not_eq_false', decide_eq_true_eq, decide_eq_false_iff_not, beq_iff_eq, beq_eq_false_iff_ne, bne_iff_ne, bne_eq_false_iff_eq, ne_eq, Classical.not_not] at hc49
        have hje : j = ((keysOf ((([o, t, b] : List OV).take n).flatMap fsO) ++ (keysOf (fsO cur)).take i).foldl addK []).length := by omega
        refine wp_exit ?_
        refine wp_seq ?_
        refine wp_region_lit ?_
        refine s_val rfl rfl (v_move rfl hs7) ?_
        refine s_val rfl rfl (v_not rfl rfl) ?_
        refine wpList_nil ?_
        refine c_split rfl (fun hc62 => ?_) (fun hc62 => ?_)
        · skip
          skip
          have hno : hasK ((keysOf ((([o, t, b] : List OV).take n).flatMap fsO) ++ (keysOf (fsO cur)).take i).foldl addK []) (fsO cur)[i].1 = false := by
            rw [hje, List.take_of_length_le (Nat.le_refl _)] at hc62; simpa using hc62
          have hadd := addK_no hno
          refine wp_region_lit ?_
          refine s_val rfl rfl (v_move rfl hs3) ?_
          refine s_val rfl rfl (v_move rfl hs6) ?_
          refine s_bsl1 cx Try.underlying123 sz9 z9 rfl rfl rfl rfl rfl rfl rfl rfl ?_; intro b65 w cx hb65 hw65
          refine s_appendG (m := 1) cx ei9 Try.underlying123 rfl rfl rfl rfl rfl (cx.row 0 rfl) rfl rfl (by omega) ?_; intro v66 w cx hgr66 hnw66
          replace cx := cx.drop 1
          refine s_val rfl rfl (v_assign rfl rfl) ?_
          refine wpList_nil ?_
          refine wp_region_lit ?_
          refine s_val rfl rfl (v_move rfl hs5) ?_
          refine s_val rfl rfl (v_add rfl rfl rfl (by omega) (by omega)) ?_
          refine s_val rfl rfl (v_assign rfl rfl) ?_
          refine wpList_nil ?_
          refine ⟨gk6 - 1, _, by omega, rfl, i + 1, v66, by omega, hs0, rfl, hs4, rfl, ?_⟩
          rw [htk, fold_snocK, hadd, List.length_append, List.map_append]
          exact cx
        · skip
          skip
          have hyes : hasK ((keysOf ((([o, t, b] : List OV).take n).flatMap fsO) ++ (keysOf (fsO cur)).take i).foldl addK []) (fsO cur)[i].1 = true := by
            rw [hje, List.take_of_length_le (Nat.le_refl _)] at hc62; simpa using hc62
          have hadd := addK_yes hyes
          refine wp_skip ?_
          refine wp_region_lit ?_
          refine s_val rfl rfl (v_move rfl hs5) ?_
          refine s_val rfl rfl (v_add rfl rfl rfl (by omega) (by omega)) ?_
          refine s_val rfl rfl (v_assign rfl rfl) ?_
          refine wpList_nil ?_
          refine ⟨gk6 - 1, _, by omega, rfl, i + 1, _, by omega, hs0, hs3, hs4, rfl, ?_⟩
          rw [htk, fold_snocK, hadd]
          exact cx
    · skip
      skip
      have hif : i = (fsO cur).length := by
        cases cur with
        | none => simp only [fsO, List.length_nil] at hki ⊢; omega
        | some v =>
          have h0 := hc32
          simp only [fsO] at hki ⊢
          simp [fsO] at h0
          omega
      refine wp_exit ?_
      refine wp_region_lit ?_
      refine s_val rfl rfl (v_move rfl hs4) ?_
      refine s_val rfl rfl (v_add rfl rfl rfl (by omega) (by omega)) ?_
      refine s_val rfl rfl (v_assign rfl rfl) ?_
      refine wpList_nil ?_
      subst hif
      have e : (keysOf ((([o, t, b] : List OV).take n).flatMap fsO) ++ (keysOf (fsO cur)).take (fsO cur).length) = keysOf ((([o, t, b] : List OV).take (n + 1)).flatMap fsO) := by
        have e0 : (keysOf (fsO cur)).take (fsO cur).length = keysOf (fsO cur) := List.take_of_length_le (by simp [keysOf])
        rw [hfl, keysOf_append, e0]
      rw [e] at cx
      exact ⟨gk3 - 1, _, by omega, rfl, n + 1, x, by omega, hs0, hs3, rfl, cx⟩
  · skip
    try simp only [Bool.and_eq_true, Bool.or_eq_true, Bool.and_eq_false_iff, Bool.or_eq_false_iff, Bool.not_eq_true', Bool.not_eq_false', decide_eq_true_eq, decide_eq_false_iff_not, beq_iff_eq, beq_eq_false_iff_ne, bne_iff_ne, bne_eq_false_iff_eq, ne_eq, Classical.not_not] at hc12
    refine wp_exit ?_
    refine wp_seq ?_
    refine wp_region_lit ?_
    refine s_val rfl rfl (v_move rfl hs3) ?_
    refine s_val rfl rfl (v_assign rfl rfl) ?_
    refine wpList_nil ?_
    refine wp_ret ?_
    refine ret_tmp Try.results121 rfl ?_
    have hn : n = 3 := by omega
    subst hn
    have e : ((keysOf ((([o, t, b] : List OV).take 3).flatMap fsO)).foldl addK []) = keysO b o t := by
      unfold keysO
      simp [keysOf_append, List.append_assoc]
    rw [e] at cx
    exact ⟨cx.ext, cx.head⟩
end Go.Proofs.Ytmkihcdcgkdilaa
end
section
set_option linter.unusedVariables false
set_option linter.unusedSimpArgs false
namespace Go.Dk
open Go Go.RowKit
/-- the choices, which a cell holds -/
def TkS (A : Nat → Prop) (w : World) (s : Value) (tk : List Bool) : Prop := ∃ ta tc b o, s = .slice ta tk.length tc ∧ (0 < tk.length → ta = some ⟨b, o, none⟩ ∧ A b ∧ RowAt w b o (tk.map Value.bool))
theorem TkS.mono {A A' : Nat → Prop} {w w' : World} (hA : ∀ b, A b → A' b) (hk : Keeps A w w') {s : Value} {tk : List Bool} (h : TkS A w s tk) : TkS A' w' s tk := by
  obtain ⟨ta, tc, b, o, e, h5⟩ := h
  exact ⟨ta, tc, b, o, e, fun h0 => ⟨(h5 h0).1, hA _ (h5 h0).2.1, (h5 h0).2.2.keep (hk _ (h5 h0).2.1)⟩⟩
theorem Fz.tks {w w' : World} {L L' : List (Nat × Obj)} {R R' : List Row} (hz : Fz w L R w' L' R') {s : Value} {tk : List Bool} (h : TkS (F w L R) w s tk) : TkS (F w' L' R') w' s tk := h.mono hz.up hz.kp
/-- what a merge of the reference leaves -/
def MgR (wb w0 : World) (L : List (Nat × Obj)) (R : List Row) (i g : Nat) (tks v : Value) (n : Nat) (cs : List Value) (C : OV × List Cf) (x : Value) (w' : World) : Prop :=
  ∃ (v' : Value) (rs' : List (List Value)), Cxr wb w' (L.set i (g, .cells ([tks, v'] : List Value).toArray 90)) (⟨94, 4, v', n + C.2.length, cs ++ rs'.flatten⟩ :: R) ∧ Fz w0 L (⟨94, 4, v, n, cs⟩ :: R) w' (L.set i (g, .cells ([tks, v'] : List Value).toArray 90)) (⟨94, 4, v', n + C.2.length, cs ++ rs'.flatten⟩ :: R) ∧ RepL (F w' (L.set i (g, .cells ([tks, v'] : List Value).toArray 90)) (⟨94, 4, v', n + C.2.length, cs ++ rs'.flatten⟩ :: R)) w' x C.1.toList ∧ Rws (cfA (F w' (L.set i (g, .cells ([tks, v'] : List Value).toArray 90)) (⟨94, 4, v', n + C.2.length, cs ++ rs'.flatten⟩ :: R)) w') C.2 rs'
theorem MgR.none {wb w0 w' : World} {L : List (Nat × Obj)} {R : List Row} {i g : Nat} {tks v : Value} {n : Nat} {cs : List Value} {r : OV} {x : Value} (hi : L[i]? = some (g, .cells ([tks, v] : List Value).toArray 90)) (cx : Cxr wb w' L (⟨94, 4, v, n, cs⟩ :: R)) (hz : Fz w0 L (⟨94, 4, v, n, cs⟩ :: R) w' L (⟨94, 4, v, n, cs⟩ :: R)) (hx : RepL (F w' L (⟨94, 4, v, n, cs⟩ :: R)) w' x r.toList) : MgR wb w0 L R i g tks v n cs (r, []) x w' := by
  refine ⟨v, [], ?_⟩
  rw [set_same hi]
  simp only [List.length_nil, Nat.add_zero, List.flatten_nil, List.append_nil]
  exact ⟨cx, hz, hx, trivial⟩
theorem MgR.cast {wb w0 w' : World} {L : List (Nat × Obj)} {R : List Row} {i g : Nat} {tks v : Value} {n : Nat} {cs : List Value} {C C' : OV × List Cf} {x : Value} (h : C = C') (hm : MgR wb w0 L R i g tks v n cs C' x w') : MgR wb w0 L R i g tks v n cs C x w' := by subst h; exact hm
def LpR (wb w0 : World) (L : List (Nat × Obj)) (R : List Row) (i g b11 : Nat) (tks v : Value) (n : Nat) (cs : List Value) (ka : Option Addr) (ks : List ByteArray) (S : Fs × List Cf) (v1 ox : Value) (rs1 ors : List (List Value)) (w1 : World) : Prop :=
  Cxr wb w1 ((b11, .cells (vrow (zk 7) (.slice none 0 0) (.slice none 0 0) ox).toArray 33) :: L.set i (g, .cells ([tks, v1] : List Value).toArray 90)) (⟨77, 14, ox, S.1.length, ors.flatten⟩ :: ⟨94, 4, v1, n + S.2.length, cs ++ rs1.flatten⟩ :: R) ∧ Fz w0 L (⟨94, 4, v, n, cs⟩ :: R) w1 ((b11, .cells (vrow (zk 7) (.slice none 0 0) (.slice none 0 0) ox).toArray 33) :: L.set i (g, .cells ([tks, v1] : List Value).toArray 90)) (⟨77, 14, ox, S.1.length, ors.flatten⟩ :: ⟨94, 4, v1, n + S.2.length, cs ++ rs1.flatten⟩ :: R) ∧ KR (F w1 ((b11, .cells (vrow (zk 7) (.slice none 0 0) (.slice none 0 0) ox).toArray 33) :: L.set i (g, .cells ([tks, v1] : List Value).toArray 90)) (⟨77, 14, ox, S.1.length, ors.flatten⟩ :: ⟨94, 4, v1, n + S.2.length, cs ++ rs1.flatten⟩ :: R)) w1 ka ks ∧ RowsF (F w1 ((b11, .cells (vrow (zk 7) (.slice none 0 0) (.slice none 0 0) ox).toArray 33) :: L.set i (g, .cells ([tks, v1] : List Value).toArray 90)) (⟨77, 14, ox, S.1.length, ors.flatten⟩ :: ⟨94, 4, v1, n + S.2.length, cs ++ rs1.flatten⟩ :: R)) w1 S.1 ors ∧ Rws (cfA (F w1 ((b11, .cells (vrow (zk 7) (.slice none 0 0) (.slice none 0 0) ox).toArray 33) :: L.set i (g, .cells ([tks, v1] : List Value).toArray 90)) (⟨77, 14, ox, S.1.length, ors.flatten⟩ :: ⟨94, 4, v1, n + S.2.length, cs ++ rs1.flatten⟩ :: R)) w1) S.2 rs1
theorem LpR.of {wb w0 : World} {L : List (Nat × Obj)} {R : List Row} {i g b11 : Nat} {tks v : Value} {n : Nat} {cs : List Value} {ka : Option Addr} {ks : List ByteArray} {S : Fs × List Cf} {v1 ox : Value} {rs1 ors : List (List Value)} {w1 : World} {k1 k2 : Nat} {X Y : List Value} (h1 : k1 = S.1.length) (h2 : X = ors.flatten) (h3 : k2 = n + S.2.length) (h4 : Y = cs ++ rs1.flatten)
    (cx : Cxr wb w1 ((b11, .cells (vrow (zk 7) (.slice none 0 0) (.slice none 0 0) ox).toArray 33) :: L.set i (g, .cells ([tks, v1] : List Value).toArray 90)) (⟨77, 14, ox, k1, X⟩ :: ⟨94, 4, v1, k2, Y⟩ :: R)) (hz : Fz w0 L (⟨94, 4, v, n, cs⟩ :: R) w1 ((b11, .cells (vrow (zk 7) (.slice none 0 0) (.slice none 0 0) ox).toArray 33) :: L.set i (g, .cells ([tks, v1] : List Value).toArray 90)) (⟨77, 14, ox, k1, X⟩ :: ⟨94, 4, v1, k2, Y⟩ :: R)) (hk : KR (F w1 ((b11, .cells (vrow (zk 7) (.slice none 0 0) (.slice none 0 0) ox).toArray 33) :: L.set i (g, .cells ([tks, v1] : List Value).toArray 90)) (⟨77, 14, ox, k1, X⟩ :: ⟨94, 4, v1, k2, Y⟩ :: R)) w1 ka ks)
    (hr : RowsF (F w1 ((b11, .cells (vrow (zk 7) (.slice none 0 0) (.slice none 0 0) ox).toArray 33) :: L.set i (g, .cells ([tks, v1] : List Value).toArray 90)) (⟨77, 14, ox, k1, X⟩ :: ⟨94, 4, v1, k2, Y⟩ :: R)) w1 S.1 ors) (hc : Rws (cfA (F w1 ((b11, .cells (vrow (zk 7) (.slice none 0 0) (.slice none 0 0) ox).toArray 33) :: L.set i (g, .cells ([tks, v1] : List Value).toArray 90)) (⟨77, 14, ox, k1, X⟩ :: ⟨94, 4, v1, k2, Y⟩ :: R)) w1) S.2 rs1) : LpR wb w0 L R i g b11 tks v n cs ka ks S v1 ox rs1 ors w1 := by
  subst h1 h2 h3 h4; exact ⟨cx, hz, hk, hr, hc⟩
end Go.Dk
end
section
namespace Go.Proofs.Ytmkihcdcgkdilaa
open Go Go.Dk Go.RowKit
set_option linter.unusedSimpArgs false
set_option linter.unusedVariables false
attribute [local irreducible] Go.wpList Go.Code.wp Go.bodyPost Go.wpStill Go.wpQuiet
def C63 (E : V → V → Bool) (tk : List Bool) (m d : Nat) : Prop := ∀ (wb : World) (L : List (Nat × Obj)) (R : List Row) (i g : Nat) (tks v : Value) (n : Nat) (cs : List Value) (p : List Stp) (ps : Value) (b o t : OV) (x1 x2 x3 : Value) (w0 : World), Cxr wb w0 L (⟨94, 4, v, n, cs⟩ :: R) → L[i]? = some (g, .cells ([tks, v] : List Value).toArray 90) → TkS (F w0 L (⟨94, 4, v, n, cs⟩ :: R)) w0 tks tk → PthA (F w0 L (⟨94, 4, v, n, cs⟩ :: R)) w0 ps p → RepL (F w0 L (⟨94, 4, v, n, cs⟩ :: R)) w0 x1 b.toList → RepL (F w0 L (⟨94, 4, v, n, cs⟩ :: R)) w0 x2 o.toList → RepL (F w0 L (⟨94, 4, v, n, cs⟩ :: R)) w0 x3 t.toList → GdO d m b → GdO d m o → GdO d m t →
    (b.isSome || o.isSome || t.isSome) = true → p.length + d ≤ 100 → d ≤ 48 → n + (mg E tk d n p b o t).2.length ≤ 1048576 → Ret Try.prog 63 [.pointer (some ⟨g, 0, none⟩), ps, x1, x2, x3] w0 (MgR wb w0 L R i g tks v n cs (mg E tk d n p b o t))

set_option maxRecDepth 10000 in
set_option maxHeartbeats 6400000 in
theorem c94 (E : V → V → Bool) (tk : List Bool) (m : Nat) (hm : m ≤ 300000) (d : Nat) (ih : C63 E tk m d) (wb : World) (L : List (Nat × Obj)) (R : List Row) (i g : Nat) (tks v : Value) (n : Nat) (cs : List Value) (p : List Stp) (ps : Value) (b o t : OV) (x1 x2 x3 : Value) (w0 : World) : Cxr wb w0 L (⟨94, 4, v, n, cs⟩ :: R) → L[i]? = some (g, .cells ([tks, v] : List Value).toArray 90) → TkS (F w0 L (⟨94, 4, v, n, cs⟩ :: R)) w0 tks tk → PthA (F w0 L (⟨94, 4, v, n, cs⟩ :: R)) w0 ps p → RepL (F w0 L (⟨94, 4, v, n, cs⟩ :: R)) w0 x1 b.toList → RepL (F w0 L (⟨94, 4, v, n, cs⟩ :: R)) w0 x2 o.toList → RepL (F w0 L (⟨94, 4, v, n, cs⟩ :: R)) w0 x3 t.toList → GdO (d + 1) m b → GdO (d + 1) m o → GdO (d + 1) m t →
    (b.isSome || o.isSome || t.isSome) = true → p.length + (d + 1) ≤ 100 → (d + 1) ≤ 48 → n + (mg E tk (d + 1) n p b o t).2.length ≤ 1048576 → (eqO E o t || eqO E t b) = false → eqO E o b = false → mapsO b o t = true → Ret Try.prog 94 [.pointer (some ⟨g, 0, none⟩), ps, x1, x2, x3] w0 (MgR wb w0 L R i g tks v n cs (mg E tk (d + 1) n p b o t)) := by
  intro cx hi htks hps hb ho ht hgb hgo hgt hne hpd hd48 hnb hn1 hn2 hmo
  have hO1 : ∃ ks, ks = keysO b o t := ⟨_, rfl⟩
  obtain ⟨ks, hks⟩ := hO1
  have hil : i < L.length := (List.getElem?_eq_some_iff.1 hi).1
  have hO2 := cx.ownRow
  obtain ⟨va, vc, rfl, hvr⟩ := hO2
  have hO3 := hb.sl
  obtain ⟨a1, c1, rfl⟩ := hO3
  have hO4 := ho.sl
  obtain ⟨a2, c2, rfl⟩ := hO4
  have hO5 := ht.sl
  obtain ⟨a3, c3, rfl⟩ := hO5
  rw [mg_3 hn1 hn2 hmo, ← hks] at hnb
  dsimp only at hnb
  refine ret_enter Try.func94 rfl Try.ntmps94 rfl ?_
  skip
  refine wp_seq ?_
  refine wp_region_lit ?_
  refine s_val rfl rfl (v_assign rfl rfl) ?_
  refine wpList_nil ?_
  refine wp_seq ?_
  refine wp_region_lit ?_
  refine s_val rfl rfl (v_build bd33m rfl rfl) ?_
  refine s_alloc cx z33 rfl rfl rfl ?_; intro b11 w cx hb11 hw11
  have hz := Fz.new (L := L) (R := (⟨94, 4, .slice va n vc, n, cs⟩ :: R)) (o := .map #[] 0) hb11 hw11
  refine s_storeAllG cx 0 rfl rfl rfl rfl rfl rfl sz33 rfl rfl ?_; intro w cx hg11
  replace hz := hz.trans (Fz.set (i := 0) (o' := .cells (vrow (zk 7) (.slice none 0 0) (.slice none 0 0) (.slice none 0 0)).toArray 33) rfl hg11)
  replace cx := cx.set0
  refine wpList_nil ?_
  refine wp_seq ?_
  refine wp_region_lit ?_
  refine s_val rfl rfl (v_move rfl rfl) ?_
  refine s_val rfl rfl (v_move rfl rfl) ?_
  refine s_val rfl rfl (v_move rfl rfl) ?_
  refine s_bsl3 cx Try.underlying162 sz91 z91 rfl rfl rfl rfl rfl rfl rfl rfl rfl ?_; intro b19 w cx hb19 hw19
  have hr19 : RowAt w b19 0 [.slice a2 o.toList.length c2, .slice a3 t.toList.length c3, .slice a1 b.toList.length c1] := cx.row 0 rfl
  replace hz := hz.trans ((Fz.new (o := .map #[] 0) hb19 hw19).trans Fz.tl)
  replace cx := cx.tl
  have cx20 := cx
  refine s_fn cx (c121 (fun b => b < w.heap.size) m hm b o t _ _ _ b19 _ (fun _ h => h) hr19 (RepL.mono (A' := fun b => b < w.heap.size) (fun b h => h.1) (fun _ _ => rfl) (hz.repL hb)) (RepL.mono (A' := fun b => b < w.heap.size) (fun b h => h.1) (fun _ _ => rfl) (hz.repL ho)) (RepL.mono (A' := fun b => b < w.heap.size) (fun b h => h.1) (fun _ _ => rfl) (hz.repL ht)) hgb.fsLen hgo.fsLen hgt.fsLen) Try.func121 rfl rfl rfl rfl rfl rfl ?_; intro q20 w cx hw20 hp20
  replace hz := hz.trans (Fz.below hw20)
  have hO6 := KR.of (ks := keysO b o t) cx20 hw20.size hp20
  obtain ⟨ka, kc, hka, hkr⟩ := hO6
  rw [← hks] at hka hkr
  subst hka
  refine s_val rfl rfl (v_assign rfl rfl) ?_
  refine wpList_nil ?_
  refine wp_seq ?_
  refine wp_seq ?_
  refine wp_region_lit ?_
  replace cx := cx.nilRow 77 14
  replace hz := hz.trans (Fz.nilRow 77 14)
  replace hkr := (Fz.nilRow 77 14).kr hkr
  refine s_val rfl rfl (v_assign rfl rfl) ?_
  refine wpList_nil ?_
  refine wp_block ?_
  refine w_loop (fun k f w1 => ∃ (j : Nat) (S : Fs × List Cf) (v1 ox : Value) (rs1 ors : List (List Value)), k + j = ks.length ∧ f 0 = .pointer (some ⟨g, 0, none⟩) ∧ f 1 = ps ∧ f 2 = .slice a1 b.toList.length c1 ∧ f 3 = .slice a2 o.toList.length c2 ∧ f 4 = .slice a3 t.toList.length c3 ∧ f 11 = .pointer (some ⟨b11, 0, none⟩) ∧ f 12 = .slice ka ks.length kc ∧ f 13 = .int .i64 (j : Nat) ∧ ((ks.take j).foldl (mgStep (mg E tk d) n p b o t) ([], [])) = S ∧ LpR wb w0 L R i g b11 tks (.slice va n vc) n cs ka ks S v1 ox rs1 ors w1) (ks.length) ?_ ?_
  · skip
    exact ⟨0, ([], []), .slice va n vc, .slice none 0 0, [], [], by omega, rfl, rfl, rfl, rfl, rfl, rfl, rfl, rfl, rfl, LpR.of (k1 := 0) (k2 := n) (X := []) (Y := cs) rfl rfl rfl (by simp) (by rw [set_same hi]; exact cx) (by rw [set_same hi]; exact hz) (by rw [set_same hi]; exact hkr) trivial trivial⟩
  intro gk4 f w hJ
  obtain ⟨j, S, v1, ox, rs1, ors, hkj, hs0, hs1, hs2, hs3, hs4, hs11, hs12, hs13, hSd, hlp⟩ := hJ
  refine wp_seq ?_
  refine wp_seq ?_
  refine wp_region_lit ?_
  refine s_val rfl rfl (v_move rfl hs13) ?_
  refine s_val rfl rfl (v_move rfl hs12) ?_
  refine s_val rfl rfl (v_lenSlice rfl rfl Try.underlying123) ?_
  refine s_val rfl rfl (v_cmp rfl rfl rfl rfl) ?_
  refine wpList_nil ?_
  refine c_split rfl (fun hc24 => ?_) (fun hc24 => ?_)
  · skip
    try simp only [Bool.and_eq_true, Bool.or_eq_true, Bool.and_eq_false_iff, Bool.or_eq_false_iff, Bool.not_eq_true', Bool.not_eq_false', decide_eq_true_eq, decide_eq_false_iff_not, beq_iff_eq, beq_eq_false_iff_ne, bne_iff_ne, bne_eq_false_iff_eq, ne_eq, Classical.not_not] at hc24
    have hjl : j < ks.length := by omega
    obtain ⟨cx, hz, hkr, hrf, hcf⟩ := hlp
    have hh := hz.self
    have hO7 := id hkr (by omega)
    obtain ⟨gk, rfl, hFk, hrk⟩ := hO7
    have hkm : ks[j] ∈ keysO b o t := by rw [← hks]; exact List.getElem_mem _
    have hcnt := fold_cnt_take (mg E tk d) n p b o t hjl
    simp only [hSd] at hcnt
    have hksl : ks.length ≤ 900000 := by
      rw [hks]
      have h1 := keysO_len b o t
      have h2 := hgb.fsLen
      have h3 := hgo.fsLen
      have h4 := hgt.fsLen
      omega
    have hsl : S.1.length ≤ 900000 := by
      have h1 := fold_len_take (mg E tk d) n p b o t (ks.take j)
      rw [hSd, List.length_take] at h1
      omega
    have hO8 : ∃ r c, mg E tk d (n + S.2.length) (p ++ [keyS ks[j]]) (fieldO ks[j] b) (fieldO ks[j] o) (fieldO ks[j] t) = (r, c) := ⟨_, _, rfl⟩
    obtain ⟨r1, c1', hC1⟩ := hO8
    rw [hC1] at hcnt
    have hS2 : (ks.take (j + 1)).foldl (mgStep (mg E tk d) n p b o t) ([], []) = (S.1 ++ (r1.map fun v => (ks[j], v)).toList, S.2 ++ c1') := by
      rw [take_foldO hjl, hSd]; simp only [mgStep, hC1]
    refine wp_skip ?_
    refine wp_seq ?_
    refine wp_block ?_
    refine wp_seq ?_
    refine w_ordK cx (Ctx.sub0 cx) hh.kp mixed [(0, 27), (1, 28), (2, 29), (3, 30), (4, 31), (5, 32), (6, 33), (9, 36), (10, 37), (11, 38), (12, 39), (13, 40), (15, 42), (16, 43), (17, 44), (18, 45), (19, 46), (21, 48), (22, 49), (23, 50), (24, 51), (25, 52)] #[true, true, true, true, true, true, true, false, false, true, true, true, true, true, false, true, true, true, true, true, false, true, true, true, true, true, false, false, false] (by kernel_rfl) (by kernel_rfl) (by kernel_rfl) (by kernel_rfl) ?_
    refine pu_one rfl (wnt_none rfl) (fun w hS => by obtain ⟨cx, hkS⟩ := hS; exact v_move rfl hs0) ?_
    refine pu_one rfl (wnt_none rfl) (fun w hS => by obtain ⟨cx, hkS⟩ := hS; exact v_move rfl hs1) ?_
    refine pu_one rfl (wnt_none rfl) (fun w hS => by obtain ⟨cx, hkS⟩ := hS; exact v_move rfl hs12) ?_
    refine pu_one rfl (wnt_none rfl) (fun w hS => by obtain ⟨cx, hkS⟩ := hS; exact v_move rfl hs13) ?_
    refine pu_one rfl (wnt_none rfl) (fun w hS => by obtain ⟨cx, hkS⟩ := hS; exact v_ia Try.underlying123 sz9 rfl rfl rfl (by omega) (by omega)) ?_
    refine pu_one rfl (wnt_none rfl) (fun w hS => by obtain ⟨cx, hkS⟩ := hS; exact v_load1 rfl rfl Try.underlying9 rfl ((hrk.keep (hkS _ hFk)) (((j : Nat) : Int).toNat * 1) (.string ks[j]) (by rw [Int.toNat_natCast, Nat.mul_one]; simp [hjl]))) ?_
    refine pu_one rfl (wnt_none rfl) (fun w hS => by obtain ⟨cx, hkS⟩ := hS; exact v_build (bd112k _) rfl rfl) ?_
    refine pu_one rfl (wnt_none rfl) (fun w hS => by obtain ⟨cx, hkS⟩ := hS; exact v_move rfl hs2) ?_
    refine pu_one rfl (wnt_none rfl) (fun w hS => by obtain ⟨cx, hkS⟩ := hS; exact v_move rfl hs12) ?_
    refine pu_one rfl (wnt_none rfl) (fun w hS => by obtain ⟨cx, hkS⟩ := hS; exact v_move rfl hs13) ?_
    refine pu_one rfl (wnt_none rfl) (fun w hS => by obtain ⟨cx, hkS⟩ := hS; exact v_ia Try.underlying123 sz9 rfl rfl rfl (by omega) (by omega)) ?_
    refine pu_one rfl (wnt_none rfl) (fun w hS => by obtain ⟨cx, hkS⟩ := hS; exact v_load1 rfl rfl Try.underlying9 rfl ((hrk.keep (hkS _ hFk)) (((j : Nat) : Int).toNat * 1) (.string ks[j]) (by rw [Int.toNat_natCast, Nat.mul_one]; simp [hjl]))) ?_
    refine pu_one rfl (wnt_none rfl) (fun w hS => by obtain ⟨cx, hkS⟩ := hS; exact v_move rfl hs3) ?_
    refine pu_one rfl (wnt_none rfl) (fun w hS => by obtain ⟨cx, hkS⟩ := hS; exact v_move rfl hs12) ?_
    refine pu_one rfl (wnt_none rfl) (fun w hS => by obtain ⟨cx, hkS⟩ := hS; exact v_move rfl hs13) ?_
    refine pu_one rfl (wnt_none rfl) (fun w hS => by obtain ⟨cx, hkS⟩ := hS; exact v_ia Try.underlying123 sz9 rfl rfl rfl (by omega) (by omega)) ?_
    refine pu_one rfl (wnt_none rfl) (fun w hS => by obtain ⟨cx, hkS⟩ := hS; exact v_load1 rfl rfl Try.underlying9 rfl ((hrk.keep (hkS _ hFk)) (((j : Nat) : Int).toNat * 1) (.string ks[j]) (by rw [Int.toNat_natCast, Nat.mul_one]; simp [hjl]))) ?_
    refine pu_one rfl (wnt_none rfl) (fun w hS => by obtain ⟨cx, hkS⟩ := hS; exact v_move rfl hs4) ?_
    refine pu_one rfl (wnt_none rfl) (fun w hS => by obtain ⟨cx, hkS⟩ := hS; exact v_move rfl hs12) ?_
    refine pu_one rfl (wnt_none rfl) (fun w hS => by obtain ⟨cx, hkS⟩ := hS; exact v_move rfl hs13) ?_
    refine pu_one rfl (wnt_none rfl) (fun w hS => by obtain ⟨cx, hkS⟩ := hS; exact v_ia Try.underlying123 sz9 rfl rfl rfl (by omega) (by omega)) ?_
    refine pu_one rfl (wnt_none rfl) (fun w hS => by obtain ⟨cx, hkS⟩ := hS; exact v_load1 rfl rfl Try.underlying9 rfl ((hrk.keep (hkS _ hFk)) (((j : Nat) : Int).toNat * 1) (.string ks[j]) (by rw [Int.toNat_natCast, Nat.mul_one]; simp [hjl]))) ?_
    refine pu_nil ?_; intro w cx hwD6 hkS6
    replace hh := hh.trans (Fz.below hwD6)
    refine x_one (i := 7) (by kernel_rfl) rfl ?_
    refine s_bsl1 cx Try.underlying24 sz112 z112 rfl rfl rfl rfl rfl rfl rfl rfl ?_; intro b34 w cx hb34 hw34
    replace hh := (hh.trans (Fz.new (o := .map #[] 0) hb34 hw34)).trans Fz.tl
    have hF34 := F.own1 cx
    have hr34 : RowAt w b34 0 (srow (keyS ks[j])) := cx.row 0 rfl
    replace cx := cx.tl
    refine x_next ⟨.inl ⟨Ctx.sub0 cx, hh.kp⟩, ?_⟩
    refine x_one (i := 8) (by kernel_rfl) rfl ?_
    have cx35 := cx
    refine s_fn cx (c119 _ p [keyS ks[j]] _ _ _ F.lt ((hz.trans hh).pth hps) (path1 hr34 hF34) (by simp only [List.length_singleton]; omega)) Try.func119 rfl rfl rfl rfl rfl rfl ?_; intro q35 w cx hw35 hp35
    replace hp35 := hp35.fr cx35 hw35.size
    replace hh := hh.trans (Fz.below hw35)
    refine x_next ⟨.inl ⟨Ctx.sub0 cx, hh.kp⟩, ?_⟩
    refine x_one (i := 14) (by kernel_rfl) rfl ?_
    have cx41b := cx
    refine s_fn cx (c122 _ b _ ks[j] _ F.lt ((hz.trans hh).repL hb) (fun v e => (hgb v e).fine)) Try.func122 rfl rfl rfl rfl rfl rfl ?_; intro q41 w cx hw41 hp41
    have hzs := Fz.below (L := ((b11, .cells (vrow (zk 7) (.slice none 0 0) (.slice none 0 0) ox).toArray 33) :: L.set i (g, .cells ([tks, v1] : List Value).toArray 90))) (R := (⟨77, 14, ox, S.1.length, ors.flatten⟩ :: ⟨94, 4, v1, n + S.2.length, cs ++ rs1.flatten⟩ :: R)) hw41
    replace hp41 := RepL.mono (A' := F w ((b11, .cells (vrow (zk 7) (.slice none 0 0) (.slice none 0 0) ox).toArray 33) :: L.set i (g, .cells ([tks, v1] : List Value).toArray 90)) (⟨77, 14, ox, S.1.length, ors.flatten⟩ :: ⟨94, 4, v1, n + S.2.length, cs ++ rs1.flatten⟩ :: R)) (fun b hb => hb.elim (hzs.up b) (F.fresh cx41b hw41.size b)) (fun _ _ => rfl) hp41
    replace hh := hh.trans hzs
    replace hp35 := hzs.pth hp35
    refine x_next ⟨.inl ⟨Ctx.sub0 cx, hh.kp⟩, ?_⟩
    refine x_one (i := 20) (by kernel_rfl) rfl ?_
    have cx47b := cx
    refine s_fn cx (c122 _ o _ ks[j] _ F.lt ((hz.trans hh).repL ho) (fun v e => (hgo v e).fine)) Try.func122 rfl rfl rfl rfl rfl rfl ?_; intro q47 w cx hw47 hp47
    have hzs := Fz.below (L := ((b11, .cells (vrow (zk 7) (.slice none 0 0) (.slice none 0 0) ox).toArray 33) :: L.set i (g, .cells ([tks, v1] : List Value).toArray 90))) (R := (⟨77, 14, ox, S.1.length, ors.flatten⟩ :: ⟨94, 4, v1, n + S.2.length, cs ++ rs1.flatten⟩ :: R)) hw47
    replace hp47 := RepL.mono (A' := F w ((b11, .cells (vrow (zk 7) (.slice none 0 0) (.slice none 0 0) ox).toArray 33) :: L.set i (g, .cells ([tks, v1] : List Value).toArray 90)) (⟨77, 14, ox, S.1.length, ors.flatten⟩ :: ⟨94, 4, v1, n + S.2.length, cs ++ rs1.flatten⟩ :: R)) (fun b hb => hb.elim (hzs.up b) (F.fresh cx47b hw47.size b)) (fun _ _ => rfl) hp47
    replace hh := hh.trans hzs
    replace hp35 := hzs.pth hp35
    replace hp41 := hzs.repL hp41
    refine x_next ⟨.inl ⟨Ctx.sub0 cx, hh.kp⟩, ?_⟩
    refine x_one (i := 26) (by kernel_rfl) rfl ?_
    have cx53b := cx
    refine s_fn cx (c122 _ t _ ks[j] _ F.lt ((hz.trans hh).repL ht) (fun v e => (hgt v e).fine)) Try.func122 rfl rfl rfl rfl rfl rfl ?_; intro q53 w cx hw53 hp53
    have hzs := Fz.below (L := ((b11, .cells (vrow (zk 7) (.slice none 0 0) (.slice none 0 0) ox).toArray 33) :: L.set i (g, .cells ([tks, v1] : List Value).toArray 90))) (R := (⟨77, 14, ox, S.1.length, ors.flatten⟩ :: ⟨94, 4, v1, n + S.2.length, cs ++ rs1.flatten⟩ :: R)) hw53
    replace hp53 := RepL.mono (A' := F w ((b11, .cells (vrow (zk 7) (.slice none 0 0) (.slice none 0 0) ox).toArray 33) :: L.set i (g, .cells ([tks, v1] : List Value).toArray 90)) (⟨77, 14, ox, S.1.length, ors.flatten⟩ :: ⟨94, 4, v1, n + S.2.length, cs ++ rs1.flatten⟩ :: R)) (fun b hb => hb.elim (hzs.up b) (F.fresh cx53b hw53.size b)) (fun _ _ => rfl) hp53
    replace hh := hh.trans hzs
    replace hp35 := hzs.pth hp35
    replace hp41 := hzs.repL hp41
    replace hp47 := hzs.repL hp47
    refine x_next ⟨.inl ⟨Ctx.sub0 cx, hh.kp⟩, ?_⟩
    refine x_one (i := 27) (by kernel_rfl) rfl ?_
    replace cx := cx.swap
    replace hh := hh.trans Fz.swap
    replace hp35 := Fz.swap.pth hp35
    replace hp41 := Fz.swap.repL hp41
    replace hp47 := Fz.swap.repL hp47
    replace hp53 := Fz.swap.repL hp53
    refine s_callR rfl rfl (runs_fn Try.func63 rfl rfl rfl rfl) (ih wb _ _ (i + 1) g tks v1 (n + S.2.length) _ (p ++ [keyS ks[j]]) _ (fieldO ks[j] b) (fieldO ks[j] o) (fieldO ks[j] t) _ _ _ _ cx (by rw [List.getElem?_cons_succ, List.getElem?_set, if_pos rfl, if_pos hil]) ((hz.trans hh).tks htks) hp35 hp41 hp47 hp53 (hgb.field _) (hgo.field _) (hgt.field _) (keysO_some hmo hkm) (by rw [List.length_append, List.length_singleton]; omega) (by omega) (by rw [hC1]; omega)) ?_; intro q54 w hp54
    rw [hC1] at hp54
    obtain ⟨v2, rs2, cx, hz2, hq54, hcf2⟩ := hp54
    simp only [List.set_cons_succ, List.set_set] at cx hz2 hq54 hcf2
    replace hh := (hh.trans hz2).trans Fz.swap
    replace cx := cx.swap
    replace hq54 := Fz.swap.repL hq54
    replace hcf2 := Fz.swap.cfs hcf2
    refine x_next ⟨.inr (by kernel_rfl), ?_⟩
    refine x_one (i := 28) (by kernel_rfl) rfl ?_
    refine s_val rfl rfl (v_assign rfl rfl) ?_
    refine x_next ⟨.inr (by kernel_rfl), ?_⟩
    refine x_done (by kernel_rfl) ?_
    refine wp_seq ?_
    refine wp_region_lit ?_
    have hO9 := optF hq54
    obtain ⟨a54, c54, b54, f54, ubs, uls, ufs, rfl, hp54f⟩ := hO9
    refine s_val rfl rfl (v_move rfl rfl) ?_
    refine s_val rfl rfl (v_lenSlice rfl rfl Try.underlying91) ?_
    refine s_val rfl rfl (v_cmp rfl rfl rfl rfl) ?_
    refine wpList_nil ?_
    refine c_split rfl (fun hc57 => ?_) (fun hc57 => ?_)
    · skip
      skip
      have hr1s : r1.isSome = true := by
        cases r1 with
        | none => cases hc57
        | some u => rfl
      have hO10 := Option.isSome_iff_exists.1 hr1s
      obtain ⟨u, rfl⟩ := hO10
      have hO11 := hp54f rfl
      obtain ⟨rfl, hF54, hr54, hv54⟩ := hO11
      have hO12 := cx.ownRow
      obtain ⟨oa, oc, rfl, hox⟩ := hO12
      have hx := hh.self
      have hK2 := hh.kr hkr
      have hO13 := hK2 (by omega)
      obtain ⟨gk2, e2, hFk2, hrk2⟩ := hO13
      cases e2
      refine w_ordK cx (cx.pick1 0 rfl) hx.kp mixed [(0, 58), (1, 59), (2, 60), (3, 61), (4, 62), (5, 63), (6, 64), (7, 65), (8, 66), (9, 67)] #[true, true, true, true, true, true, true, true, true, true, false, false, false, false] (by kernel_rfl) (by kernel_rfl) (by kernel_rfl) (by kernel_rfl) ?_
      refine pu_one rfl (wnt_none rfl) (fun w hS => by obtain ⟨cx, hkS⟩ := hS; exact v_fa fa33_7 rfl hs11) ?_
      refine pu_one rfl (wnt_none rfl) (fun w hS => by obtain ⟨cx, hkS⟩ := hS; exact v_load1 rfl rfl Try.underlying31 rfl (cx.cell 0 rfl rfl)) ?_
      refine pu_one rfl (wnt_none rfl) (fun w hS => by obtain ⟨cx, hkS⟩ := hS; exact v_move rfl hs12) ?_
      refine pu_one rfl (wnt_none rfl) (fun w hS => by obtain ⟨cx, hkS⟩ := hS; exact v_move rfl hs13) ?_
      refine pu_one rfl (wnt_none rfl) (fun w hS => by obtain ⟨cx, hkS⟩ := hS; exact v_ia Try.underlying123 sz9 rfl rfl rfl (by omega) (by omega)) ?_
      refine pu_one rfl (wnt_none rfl) (fun w hS => by obtain ⟨cx, hkS⟩ := hS; exact v_load1 rfl rfl Try.underlying9 rfl ((hrk2.keep (hkS _ hFk2)) (((j : Nat) : Int).toNat * 1) (.string ks[j]) (by rw [Int.toNat_natCast, Nat.mul_one]; simp [hjl]))) ?_
      refine pu_one rfl (wnt_none rfl) (fun w hS => by obtain ⟨cx, hkS⟩ := hS; exact v_move rfl rfl) ?_
      refine pu_one rfl (wnt_none rfl) (fun w hS => by obtain ⟨cx, hkS⟩ := hS; exact v_ia Try.underlying91 sz33 rfl rfl rfl (by omega) (len_some rfl)) ?_
      refine pu_one rfl (wnt_none rfl) (fun w hS => by obtain ⟨cx, hkS⟩ := hS; exact v_load rfl rfl Try.underlying33 rfl sz33 (hr54.keep (hkS _ hF54)) rfl) ?_
      refine pu_one rfl (wnt_none rfl) (fun w hS => by obtain ⟨cx, hkS⟩ := hS; exact v_build (bd77 _ _ _ _ _) rfl rfl) ?_
      refine pu_nil ?_; intro w cx hwD8 hkS8
      replace hx := hx.trans (Fz.below hwD8)
      refine x_one (i := 10) (by kernel_rfl) rfl ?_
      refine s_bsl1 cx Try.underlying31 sz77 z77 rfl rfl rfl rfl rfl rfl rfl rfl ?_; intro b68 w cx hb68 hw68
      replace hx := hx.trans ((Fz.new (o := .map #[] 0) hb68 hw68).trans Fz.tl)
      have hr68 : RowAt w b68 0 (.string ks[j] :: vrow u.sc ubs uls ufs) := cx.row 0 rfl
      replace cx := cx.tl
      refine x_next ⟨.inl ⟨cx.pick1 0 rfl, hx.kp⟩, ?_⟩
      refine x_one (i := 11) (by kernel_rfl) rfl ?_
      refine s_appendG (m := 1) cx ei77 Try.underlying31 rfl rfl rfl rfl rfl hr68 rfl (rowF_one hv54) (by omega) ?_; intro v69 w cx hgr69 hnw69
      replace hx := hx.trans (Fz.app (r := (⟨77, 14, .slice oa S.1.length oc, S.1.length, ors.flatten⟩ : Row)) (r' := (⟨77, 14, v69, S.1.length + 1, ors.flatten ++ (.string ks[j] :: vrow u.sc ubs uls ufs)⟩ : Row)) hgr69 hnw69)
      refine x_next ⟨.inr (by kernel_rfl), ?_⟩
      refine x_one (i := 12) (by kernel_rfl) rfl ?_
      refine s_val rfl rfl (v_fa fa33_7 rfl hs11) ?_
      refine x_next ⟨.inr (by kernel_rfl), ?_⟩
      refine x_one (i := 13) (by kernel_rfl) rfl ?_
      refine s_store1G (v := v69) cx 0 rfl rfl rfl rfl rfl (own_one cx.head) rfl rfl rfl ?_; intro w cx hg8
      replace hx := hx.trans (Fz.set (i := 0) (o' := .cells (vrow (zk 7) (.slice none 0 0) (.slice none 0 0) v69).toArray 33) rfl hg8)
      replace cx := cx.set0
      refine x_next ⟨.inr (by kernel_rfl), ?_⟩
      refine x_done (by kernel_rfl) ?_
      refine wp_region_lit ?_
      refine s_val rfl rfl (v_move rfl hs13) ?_
      refine s_val rfl rfl (v_add rfl rfl rfl (by omega) (by omega)) ?_
      refine s_val rfl rfl (v_assign rfl rfl) ?_
      refine wpList_nil ?_
      have hhx := hh.trans hx
      refine ⟨gk4 - 1, _, by omega, rfl, j + 1, _, v2, v69, rs1 ++ rs2, ors ++ [.string ks[j] :: vrow u.sc ubs uls ufs], by omega, hs0, hs1, hs2, hs3, hs4, hs11, hs12, rfl, hS2, LpR.of ?_ ?_ ?_ ?_ cx (hz.trans hhx) (hhx.kr hkr) (RowsF.snoc _ _ (hhx.rowsF hrf) (hx.rep hv54)) (Rws.append (hhx.cfs hcf) (hx.cfs hcf2))⟩
      · simp
      · simp
      · simp [Nat.add_assoc]
      · simp
    · skip
      skip
      have hr1n : r1 = none := by
        cases r1 with
        | none => rfl
        | some u => cases hc57
      subst hr1n
      refine wp_skip ?_
      refine wp_region_lit ?_
      refine s_val rfl rfl (v_move rfl hs13) ?_
      refine s_val rfl rfl (v_add rfl rfl rfl (by omega) (by omega)) ?_
      refine s_val rfl rfl (v_assign rfl rfl) ?_
      refine wpList_nil ?_
      refine ⟨gk4 - 1, _, by omega, rfl, j + 1, _, v2, ox, rs1 ++ rs2, ors, by omega, hs0, hs1, hs2, hs3, hs4, hs11, hs12, rfl, hS2, LpR.of ?_ ?_ ?_ ?_ cx (hz.trans hh) (hh.kr hkr) ?_ (Rws.append (hh.cfs hcf) hcf2)⟩
      · simp
      · rfl
      · simp [Nat.add_assoc]
      · simp
      · simpa using hh.rowsF hrf
  · skip
    try simp only [Bool.and_eq_true, Bool.or_eq_true, Bool.and_eq_false_iff, Bool.or_eq_false_iff, Bool.not_eq_true', Bool.not_eq_false', decide_eq_true_eq, decide_eq_false_iff_not, beq_iff_eq, beq_eq_false_iff_ne, bne_iff_ne, bne_eq_false_iff_eq, ne_eq, Classical.not_not] at hc24
    obtain ⟨cx, hz, hkr, hrf, hcf⟩ := hlp
    refine wp_exit ?_
    refine wp_seq ?_
    refine wp_region_lit ?_
    refine s_val rfl rfl (v_load rfl hs11 Try.underlying33 rfl sz33 (cx.row 0 rfl) rfl) ?_
    refine s_bsl1 cx Try.underlying91 sz33 z33 rfl rfl rfl rfl rfl rfl rfl rfl ?_; intro b72 w cx hb72 hw72
    have hr72 : RowAt w b72 0 (vrow (zk 7) (.slice none 0 0) (.slice none 0 0) ox) := cx.row 0 rfl
    have hF72 := F.own1 cx
    have hzs := (Fz.new (o := .map #[] 0) hb72 hw72).trans (Fz.tl (L := ((b11, .cells (vrow (zk 7) (.slice none 0 0) (.slice none 0 0) ox).toArray 33) :: L.set i (g, .cells ([tks, v1] : List Value).toArray 90))) (R := (⟨77, 14, ox, S.1.length, ors.flatten⟩ :: ⟨94, 4, v1, n + S.2.length, cs ++ rs1.flatten⟩ :: R)))
    replace hz := hz.trans hzs
    replace hrf := hzs.rowsF hrf
    replace hcf := hzs.cfs hcf
    replace cx := cx.tl
    refine s_val rfl rfl (v_assign rfl rfl) ?_
    refine wpList_nil ?_
    refine wp_ret ?_
    refine ret_tmp Try.results94 rfl ?_
    have hjl : j = ks.length := by omega
    rw [hjl, List.take_of_length_le (Nat.le_refl _)] at hSd
    have hmg : mg E tk (d + 1) n p b o t = (some (mapV S.1), S.2) := by rw [mg_3 hn1 hn2 hmo, ← hks, hSd]
    refine MgR.cast hmg ?_
    refine ⟨v1, rs1, cx.tl.dropR 1, (hz.trans Fz.tl).trans (Fz.dropR 1), RepL.one1 hr72 (RepV.mk (v := mapV S.1) repB_nil repL_nil (RepF.mono ?_ (fun _ _ => rfl) (fld_of_row cx.head rfl hrf (fun _ _ => rfl)))) ((Fz.dropR 1).up _ (Fz.tl.up _ hF72)), (Fz.dropR 1).cfs (Fz.tl.cfs hcf)⟩
    rintro q (hq | hq)
    · exact (Fz.dropR 1).up _ (Fz.tl.up _ hq)
    · exact Fz.tl.up _ (F.row1 cx q hq)
end Go.Proofs.Ytmkihcdcgkdilaa
end
section
namespace Go.Proofs.Ytmkihcdcgkdilaa
open Go Go.Dk Go.RowKit
set_option linter.unusedSimpArgs false
set_option linter.unusedVariables false
attribute [local irreducible] Go.wpList Go.Code.wp Go.bodyPost Go.wpStill Go.wpQuiet
theorem maps_r {b o t : OV} : ((((((((o.toList.length : Nat) : Int) == 1) && (((t.toList.length : Nat) : Int) == 1)) && (o.getD nulV).sc.kind == 7)) && (t.getD nulV).sc.kind == 7) && ((((b.toList.length : Nat) : Int) == 0) || (b.getD nulV).sc.kind == 7)) = mapsO b o t := by
  cases b <;> cases o <;> cases t <;> simp [mapsO, isMap]
theorem one1 {o : OV} (h : ((((o.toList.length : Nat) : Int) == 1)) = true) : o.isSome = true := by cases o <;> simp_all

set_option maxRecDepth 10000 in
set_option maxHeartbeats 6400000 in
theorem c63 (E : V → V → Bool) (hE : ∀ x y, E x y = true ↔ canon x = canon y) (tk : List Bool) (htk : tk.length ≤ 1048576) (m : Nat) (hm : m ≤ 300000) : ∀ d, C63 E tk m d := by
  intro d
  induction d with
  | zero =>
    intro wb L R i g tks v n cs p ps b o t x1 x2 x3 w0 cx hi htks hps hb ho ht hgb hgo hgt hne
    exfalso
    cases b with
    | some u => exact (hgb u rfl).ok
    | none =>
      cases o with
      | some u => exact (hgo u rfl).ok
      | none =>
        cases t with
        | some u => exact (hgt u rfl).ok
        | none => cases hne
  | succ d ih =>
  intro wb L R i g tks v n cs p ps b o t x1 x2 x3 w0 cx hi htks hps hb ho ht hgb hgo hgt hne hpd hd48 hnb
  have hil : i < L.length := (List.getElem?_eq_some_iff.1 hi).1
  have hO1 := cx.ownRow
  obtain ⟨va, vc, rfl, hvr⟩ := hO1
  have hO2 := id htks
  obtain ⟨ta, tc, tb, to, rfl, htkd⟩ := hO2
  have hO3 := hps.sl
  obtain ⟨pa, pc, rfl⟩ := hO3
  have hO4 := optF hb
  obtain ⟨a1, c1, b1, f1, bs1, ls1, fs1, rfl, hp1⟩ := hO4
  have hO5 := optF ho
  obtain ⟨a2, c2, b2, f2, bs2, ls2, fs2, rfl, hp2⟩ := hO5
  have hO6 := optF ht
  obtain ⟨a3, c3, b3, f3, bs3, ls3, fs3, rfl, hp3⟩ := hO6
  have htlt : decide (((n : Nat) : Int) < ((tk.length : Nat) : Int)) = true → n < tk.length := fun h => by have := of_decide_eq_true h; omega
  refine ret_enter Try.func63 rfl Try.ntmps63 rfl ?_
  skip
  refine wp_seq ?_
  refine wp_region_lit ?_
  refine s_val rfl rfl (v_assign rfl rfl) ?_
  refine wpList_nil ?_
  refine wp_seq ?_
  refine wp_seq ?_
  refine wp_region_lit ?_
  refine s_val rfl rfl (v_move rfl rfl) ?_
  refine s_val rfl rfl (v_move rfl rfl) ?_
  have hz := Fz.refl w0 L (⟨94, 4, .slice va n vc, n, cs⟩ :: R)
  refine s_fnB cx (c93 E hE _ o t _ _ _ F.lt (hz.repL ho) (hz.repL ht) (fun v e => (hgo v e).fine) (fun v e => (hgt v e).fine)) Try.func93 rfl rfl rfl rfl rfl rfl ?_; intro q14 w cx hw14 hp14
  replace hz := hz.trans (Fz.below hw14)
  refine s_val rfl rfl (v_move rfl rfl) ?_
  refine s_gval rfl rfl rfl (by first | exact w_ff rfl | exact w_gf rfl) (fun hc => v_move rfl (by first | exact gve hc rfl | exact gve (and_l hc) rfl | exact gve (and_l (and_l hc)) rfl | rfl)) ?_
  refine s_gval rfl rfl rfl (by first | exact w_ff rfl | exact w_gf rfl) (fun hc => v_move rfl (by first | exact gve hc rfl | exact gve (and_l hc) rfl | exact gve (and_l (and_l hc)) rfl | rfl)) ?_
  refine s_gfnB cx rfl rfl rfl (by first | exact w_ff rfl | exact w_gf rfl) (fun hc => c93 E hE _ t b _ _ _ F.lt (hz.repL ht) (hz.repL hb) (fun v e => (hgt v e).fine) (fun v e => (hgb v e).fine)) Try.func93 rfl rfl rfl (fun hc => (cons_eq (gve hc rfl) (cons_eq (gve hc rfl) rfl))) ?_; intro q18 w cx hw18 hp18
  replace hz := hz.trans (Fz.below hw18)
  refine s_val rfl rfl (v_or rfl rfl rfl rfl) ?_
  refine wpList_nil ?_
  refine c_split rfl (fun hc19 => ?_) (fun hc19 => ?_)
  · skip
    skip
    refine wp_seq ?_
    refine wp_region_lit ?_
    refine s_val rfl rfl (v_move rfl rfl) ?_
    refine s_val rfl rfl (v_assign rfl rfl) ?_
    refine wpList_nil ?_
    refine wp_ret ?_
    refine ret_tmp Try.results63 rfl ?_
    have hy1 : (eqO E o t || eqO E t b) = true := by
      cases hq : q14 with
      | true => rw [← hp14, hq]; rfl
      | false =>
        rw [hq] at hc19
        rw [← hp14, hq, ← hp18 (by rw [hq]; rfl)]; exact hc19
    refine MgR.cast (mg_1 hy1) ?_
    exact MgR.none hi cx hz (hz.repL ho)
  · skip
    skip
    have hn1 : (eqO E o t || eqO E t b) = false := by
      rw [Bool.or_eq_false_iff] at hc19
      rw [← hp14, hc19.1, ← hp18 (by rw [hc19.1]; rfl), hc19.2]; rfl
    refine wp_skip ?_
    refine wp_seq ?_
    refine wp_seq ?_
    refine wp_region_lit ?_
    refine s_val rfl rfl (v_move rfl rfl) ?_
    refine s_val rfl rfl (v_move rfl rfl) ?_
    refine s_fnB cx (c93 E hE _ o b _ _ _ F.lt (hz.repL ho) (hz.repL hb) (fun v e => (hgo v e).fine) (fun v e => (hgb v e).fine)) Try.func93 rfl rfl rfl rfl rfl rfl ?_; intro q23 w cx hw23 hp23
    replace hz := hz.trans (Fz.below hw23)
    refine wpList_nil ?_
    refine c_split rfl (fun hc23 => ?_) (fun hc23 => ?_)
    · skip
      skip
      refine wp_seq ?_
      refine wp_region_lit ?_
      refine s_val rfl rfl (v_move rfl rfl) ?_
      refine s_val rfl rfl (v_assign rfl rfl) ?_
      refine wpList_nil ?_
      refine wp_ret ?_
      refine ret_tmp Try.results63 rfl ?_
      refine MgR.cast (mg_2 hn1 (by rw [← hp23]; exact hc23)) ?_
      exact MgR.none hi cx hz (hz.repL ht)
    · skip
      skip
      have hn2 : eqO E o b = false := by rw [← hp23]; exact hc23
      refine wp_skip ?_
      refine wp_seq ?_
      refine wp_seq ?_
      refine wp_region_lit ?_
      refine s_val rfl rfl (v_move rfl rfl) ?_
      refine s_val rfl rfl (v_lenSlice rfl rfl Try.underlying91) ?_
      refine s_val rfl rfl (v_cmp rfl rfl rfl rfl) ?_
      refine s_val rfl rfl (v_move rfl rfl) ?_
      refine s_gval rfl rfl rfl (by first | exact w_tt rfl | exact w_gt rfl) (fun hc => v_move rfl (by first | exact gve hc rfl | exact gve (and_l hc) rfl | exact gve (and_l (and_l hc)) rfl | rfl)) ?_
      refine s_gval rfl rfl rfl (by first | exact w_tt rfl | exact w_gt rfl) (fun hc => v_lenSlice rfl (by first | exact gve hc rfl | exact gve (and_l hc) rfl | exact gve (and_l (and_l hc)) rfl | rfl) Try.underlying91) ?_
      refine s_gval rfl rfl rfl (by first | exact w_tt rfl | exact w_gt rfl) (fun hc => v_cmp rfl (by first | exact gve hc rfl | exact gve (and_l hc) rfl | exact gve (and_l (and_l hc)) rfl | rfl) rfl rfl) ?_
      refine s_val rfl rfl (v_and rfl rfl rfl rfl) ?_
      refine s_val rfl rfl (v_move rfl rfl) ?_
      refine s_gval rfl rfl rfl (by first | exact w_tt rfl | exact w_gt rfl) (fun hc => v_move rfl (by first | exact gve hc rfl | exact gve (and_l hc) rfl | exact gve (and_l (and_l hc)) rfl | rfl)) ?_
      refine s_gval rfl rfl rfl (by first | exact w_tt rfl | exact w_gt rfl) (fun hc => v_ia Try.underlying91 sz33 rfl ((gve hc rfl).trans (congrArg (fun x => Value.slice x o.toList.length c2) (hp2 (one1 (and_l hc))).1)) rfl (by omega) (len_some (one1 (and_l hc)))) ?_
      refine s_gval rfl rfl rfl (by first | exact w_tt rfl | exact w_gt rfl) (fun hc => v_fa fa33_0 rfl (gve hc rfl)) ?_
      refine s_gval rfl rfl rfl (by first | exact w_tt rfl | exact w_gt rfl) (fun hc => v_load1 rfl (gve hc rfl) Try.underlying3 rfl ((hz.row (hp2 (one1 (and_l hc))).2.2.1 (hp2 (one1 (and_l hc))).2.1).cell 0 rfl)) ?_
      refine s_gval rfl rfl rfl (by first | exact w_tt rfl | exact w_gt rfl) (fun hc => v_cmp rfl (gve hc rfl) rfl rfl) ?_
      refine s_val rfl rfl (v_and rfl rfl rfl rfl) ?_
      refine s_val rfl rfl (v_move rfl rfl) ?_
      refine s_gval rfl rfl rfl (by first | exact w_tt rfl | exact w_gt rfl) (fun hc => v_move rfl (by first | exact gve hc rfl | exact gve (and_l hc) rfl | exact gve (and_l (and_l hc)) rfl | rfl)) ?_
      refine s_gval rfl rfl rfl (by first | exact w_tt rfl | exact w_gt rfl) (fun hc => v_ia Try.underlying91 sz33 rfl ((gve hc rfl).trans (congrArg (fun x => Value.slice x t.toList.length c3) (hp3 (one1 (and_r (and_l hc)))).1)) rfl (by omega) (len_some (one1 (and_r (and_l hc))))) ?_
      refine s_gval rfl rfl rfl (by first | exact w_tt rfl | exact w_gt rfl) (fun hc => v_fa fa33_0 rfl (gve hc rfl)) ?_
      refine s_gval rfl rfl rfl (by first | exact w_tt rfl | exact w_gt rfl) (fun hc => v_load1 rfl (gve hc rfl) Try.underlying3 rfl ((hz.row (hp3 (one1 (and_r (and_l hc)))).2.2.1 (hp3 (one1 (and_r (and_l hc)))).2.1).cell 0 rfl)) ?_
      refine s_gval rfl rfl rfl (by first | exact w_tt rfl | exact w_gt rfl) (fun hc => v_cmp rfl (gve hc rfl) rfl rfl) ?_
      refine s_val rfl rfl (v_and rfl rfl rfl rfl) ?_
      refine s_val rfl rfl (v_move rfl rfl) ?_
      refine s_gval rfl rfl rfl (by first | exact w_tt rfl | exact w_gt rfl) (fun hc => v_move rfl (by first | exact gve hc rfl | exact gve (and_l hc) rfl | exact gve (and_l (and_l hc)) rfl | rfl)) ?_
      refine s_gval rfl rfl rfl (by first | exact w_tt rfl | exact w_gt rfl) (fun hc => v_lenSlice rfl (by first | exact gve hc rfl | exact gve (and_l hc) rfl | exact gve (and_l (and_l hc)) rfl | rfl) Try.underlying91) ?_
      refine s_gval rfl rfl rfl (by first | exact w_tt rfl | exact w_gt rfl) (fun hc => v_cmp rfl (by first | exact gve hc rfl | exact gve (and_l hc) rfl | exact gve (and_l (and_l hc)) rfl | rfl) rfl rfl) ?_
      refine s_gval rfl rfl rfl (by first | exact w_tt rfl | exact w_gt rfl) (fun hc => v_move rfl (by first | exact gve hc rfl | exact gve (and_l hc) rfl | exact gve (and_l (and_l hc)) rfl | rfl)) ?_
      refine s_gval rfl rfl rfl (by first | exact w_ff rfl | exact w_gf rfl) (fun hc => v_move rfl (by first | exact gve hc rfl | exact gve (and_l hc) rfl | exact gve (and_l (and_l hc)) rfl | rfl)) ?_
      refine s_gval rfl rfl rfl (by first | exact w_ff rfl | exact w_gf rfl) (fun hc => v_ia Try.underlying91 sz33 rfl ((gve hc rfl).trans (congrArg (fun x => Value.slice x b.toList.length c1) (hp1 (one_some (and_r hc))).1)) rfl (by omega) (len_some (one_some (and_r hc)))) ?_
      refine s_gval rfl rfl rfl (by first | exact w_ff rfl | exact w_gf rfl) (fun hc => v_fa fa33_0 rfl (gve hc rfl)) ?_
      refine s_gval rfl rfl rfl (by first | exact w_ff rfl | exact w_gf rfl) (fun hc => v_load1 rfl (gve hc rfl) Try.underlying3 rfl ((hz.row (hp1 (one_some (and_r hc))).2.2.1 (hp1 (one_some (and_r hc))).2.1).cell 0 rfl)) ?_
      refine s_gval rfl rfl rfl (by first | exact w_ff rfl | exact w_gf rfl) (fun hc => v_cmp rfl (gve hc rfl) rfl rfl) ?_
      refine s_gval rfl rfl rfl (by first | exact w_tt rfl | exact w_gt rfl) (fun hc => v_or_g hc rfl rfl rfl rfl) ?_
      refine s_val rfl rfl (v_and rfl rfl rfl rfl) ?_
      refine wpList_nil ?_
      refine c_split rfl (fun hc58 => ?_) (fun hc58 => ?_)
      · skip
        skip
        have hmo : mapsO b o t = true := maps_r.symm.trans hc58
        refine wp_seq ?_
        refine wp_region_lit ?_
        refine s_val rfl rfl (v_move rfl rfl) ?_
        refine s_val rfl rfl (v_move rfl rfl) ?_
        refine s_val rfl rfl (v_move rfl rfl) ?_
        refine s_val rfl rfl (v_move rfl rfl) ?_
        refine s_val rfl rfl (v_move rfl rfl) ?_
        refine s_callR rfl rfl (runs_fn Try.func94 rfl rfl rfl rfl) (c94 E tk m hm d ih wb L R i g _ (.slice va n vc) n cs p _ b o t _ _ _ w cx hi (hz.tks htks) (hz.pth hps) (hz.repL hb) (hz.repL ho) (hz.repL ht) hgb hgo hgt hne hpd hd48 hnb hn1 hn2 hmo) ?_; intro q64 w hp64
        refine s_val rfl rfl (v_assign rfl rfl) ?_
        refine wpList_nil ?_
        refine wp_ret ?_
        refine ret_tmp Try.results63 rfl ?_
        obtain ⟨v', rs', cx, hz2, h1, h2⟩ := hp64
        exact ⟨v', rs', cx, hz.trans hz2, h1, h2⟩
      · skip
        skip
        have hmo : mapsO b o t = false := maps_r.symm.trans hc58
        have hnb1 : n + 1 ≤ 1048576 := by rw [mg_4 hn1 hn2 hmo] at hnb; exact hnb
        refine wp_skip ?_
        refine wp_seq ?_
        refine wp_region_lit ?_
        refine s_val rfl rfl (v_move rfl rfl) ?_
        refine s_val rfl rfl (v_nilCk rfl rfl) ?_
        refine s_val rfl rfl (v_fa fa90_1 rfl rfl) ?_
        refine s_val rfl rfl (v_load1 rfl rfl Try.underlying50 rfl (cx.cell i hi rfl)) ?_
        refine s_val rfl rfl (v_lenSlice rfl rfl Try.underlying50) ?_
        refine s_val rfl rfl (v_assign rfl rfl) ?_
        refine wpList_nil ?_
        refine wp_seq ?_
        refine wp_region_lit ?_
        refine s_val rfl rfl (v_move rfl rfl) ?_
        refine s_val rfl rfl (v_move rfl rfl) ?_
        refine s_val rfl rfl (v_nilCk rfl rfl) ?_
        refine s_val rfl rfl (v_fa fa90_1 rfl rfl) ?_
        refine s_val rfl rfl (v_load1 rfl rfl Try.underlying50 rfl (cx.cell i hi rfl)) ?_
        refine s_val rfl rfl (v_move rfl rfl) ?_
        refine s_val rfl rfl (v_move rfl rfl) ?_
        refine s_val rfl rfl (v_move rfl rfl) ?_
        refine s_val rfl rfl (v_move rfl rfl) ?_
        refine s_val rfl rfl (v_build (bd94 _ _ _ _ _ _ _ _ _ _ _ _) rfl rfl) ?_
        refine s_bsl1 cx Try.underlying50 sz94 z94 rfl rfl rfl rfl rfl rfl rfl rfl ?_; intro b80 w cx hb80 hw80
        have hr80 : RowAt w b80 0 [.slice pa p.length pc, .slice a1 b.toList.length c1, .slice a2 o.toList.length c2, .slice a3 t.toList.length c3] := cx.row 0 rfl
        replace hz := hz.trans ((Fz.new (o := .map #[] 0) hb80 hw80).trans Fz.tl)
        replace cx := cx.tl
        refine s_appendG (m := 1) cx ei94 Try.underlying50 rfl rfl rfl rfl rfl hr80 rfl rfl (by omega) ?_; intro v81 w cx hgr81 hnw81
        replace hz := hz.trans (Fz.app (r := ⟨94, 4, .slice va n vc, n, cs⟩) (r' := ⟨94, 4, v81, n + 1, cs ++ [.slice pa p.length pc, .slice a1 b.toList.length c1, .slice a2 o.toList.length c2, .slice a3 t.toList.length c3]⟩) hgr81 hnw81)
        refine s_val rfl rfl (v_nilCk rfl rfl) ?_
        refine s_val rfl rfl (v_fa fa90_1 rfl rfl) ?_
        refine s_store1G (v := v81) cx i rfl rfl rfl rfl rfl (own_one cx.head) hi rfl rfl ?_; intro w cx hg8
        replace hz := hz.trans (Fz.set (o' := .cells ([(.slice ta tk.length tc), v81] : List Value).toArray 90) hi hg8)
        refine wpList_nil ?_
        refine wp_seq ?_
        refine wp_seq ?_
        refine wp_region_lit ?_
        have hi2 : (L.set i (g, .cells ([.slice ta tk.length tc, v81] : List Value).toArray 90))[i]? = some (g, .cells ([.slice ta tk.length tc, v81] : List Value).toArray 90) := by rw [List.getElem?_set, if_pos rfl, if_pos hil]
        refine s_val rfl rfl (v_move rfl rfl) ?_
        refine s_val rfl rfl (v_move rfl rfl) ?_
        refine s_val rfl rfl (v_nilCk rfl rfl) ?_
        refine s_val rfl rfl (v_fa fa90_0 rfl rfl) ?_
        refine s_val rfl rfl (v_load1 rfl rfl Try.underlying55 rfl (cx.cell i hi2 rfl)) ?_
        refine s_val rfl rfl (v_lenSlice rfl rfl Try.underlying55) ?_
        refine s_val rfl rfl (v_cmp rfl rfl rfl rfl) ?_
        refine s_val rfl rfl (v_move rfl rfl) ?_
        refine s_gval rfl rfl rfl (by first | exact w_tt rfl | exact w_gt rfl) (fun hc => v_move rfl (by first | exact gve hc rfl | exact gve (and_l hc) rfl | exact gve (and_l (and_l hc)) rfl | rfl)) ?_
        refine s_gval rfl rfl rfl (by first | exact w_tt rfl | exact w_gt rfl) (fun hc => v_nilCk rfl (gve hc rfl)) ?_
        refine s_gval rfl rfl rfl (by first | exact w_tt rfl | exact w_gt rfl) (fun hc => v_fa fa90_0 rfl (gve hc rfl)) ?_
        refine s_gval rfl rfl rfl (by first | exact w_tt rfl | exact w_gt rfl) (fun hc => v_load1 rfl (gve hc rfl) Try.underlying55 rfl (cx.cell i hi2 rfl)) ?_
        refine s_gval rfl rfl rfl (by first | exact w_tt rfl | exact w_gt rfl) (fun hc => v_move rfl (by first | exact gve hc rfl | exact gve (and_l hc) rfl | exact gve (and_l (and_l hc)) rfl | rfl)) ?_
        refine s_gval rfl rfl rfl (by first | exact w_tt rfl | exact w_gt rfl) (fun hc => v_ia Try.underlying55 sz4 rfl ((gve hc rfl).trans (congrArg (fun a => Value.slice a tk.length tc) (htkd (Nat.lt_of_le_of_lt (Nat.zero_le _) (htlt hc))).1)) (gve hc rfl) (by omega) (by have := htlt hc; omega)) ?_
        refine s_gval rfl rfl rfl (by first | exact w_tt rfl | exact w_gt rfl) (fun hc => v_load1 rfl (gve hc rfl) Try.underlying4 rfl (((htkd (Nat.lt_of_le_of_lt (Nat.zero_le _) (htlt hc))).2.2.keep (hz.kp _ (htkd (Nat.lt_of_le_of_lt (Nat.zero_le _) (htlt hc))).2.1)) _ (.bool (tk.getD n false)) (by have := htlt hc; rw [Int.toNat_natCast, Nat.mul_one]; simp [List.getD, this]))) ?_
        refine s_val rfl rfl (v_and rfl rfl rfl rfl) ?_
        refine wpList_nil ?_
        refine c_split rfl (fun hc99 => ?_) (fun hc99 => ?_)
        · skip
          skip
          refine wp_seq ?_
          refine wp_region_lit ?_
          refine s_val rfl rfl (v_move rfl rfl) ?_
          refine s_val rfl rfl (v_assign rfl rfl) ?_
          refine wpList_nil ?_
          refine wp_ret ?_
          refine ret_tmp Try.results63 rfl ?_
          have hgt : tk.getD n false = true := and_r hc99
          have hmg : mg E tk (d + 1) n p b o t = (t, [⟨p, b, o, t⟩]) := by rw [mg_4 hn1 hn2 hmo, if_pos hgt]
          exact MgR.cast hmg ⟨v81, [[.slice pa p.length pc, .slice a1 b.toList.length c1, .slice a2 o.toList.length c2, .slice a3 t.toList.length c3]], cx, hz, hz.repL ht, ⟨⟨_, _, _, _, rfl, hz.pth hps, hz.repL hb, hz.repL ho, hz.repL ht⟩, trivial⟩⟩
        · skip
          skip
          refine wp_skip ?_
          refine wp_seq ?_
          refine wp_region_lit ?_
          refine s_val rfl rfl (v_move rfl rfl) ?_
          refine s_val rfl rfl (v_assign rfl rfl) ?_
          refine wpList_nil ?_
          refine wp_ret ?_
          refine ret_tmp Try.results63 rfl ?_
          have hgf : ¬ tk.getD n false = true := fun h => by
            have h2 := hc99
            rw [h, Bool.and_true] at h2
            have h3 : ¬ n < tk.length := by simpa using h2
            rw [List.getD, List.getElem?_eq_none (by omega)] at h
            cases h
          have hmg : mg E tk (d + 1) n p b o t = (o, [⟨p, b, o, t⟩]) := by rw [mg_4 hn1 hn2 hmo, if_neg hgf]
          exact MgR.cast hmg ⟨v81, [[.slice pa p.length pc, .slice a1 b.toList.length c1, .slice a2 o.toList.length c2, .slice a3 t.toList.length c3]], cx, hz, hz.repL ho, ⟨⟨_, _, _, _, rfl, hz.pth hps, hz.repL hb, hz.repL ho, hz.repL ht⟩, trivial⟩⟩
end Go.Proofs.Ytmkihcdcgkdilaa
end
section
set_option linter.unusedVariables false
set_option linter.unusedSimpArgs false
namespace Go.Dk
open Go Go.RowKit
/-- a merge's value and conflicts, as the reference returns them -/
def ThQ (w0 : World) (C : OV × List Cf) (y : Value) (w' : World) : Prop := ∃ (l : List Value) (x : Value) (rs : List (List Value)), y = .tuple #[.agg l.toArray, x] ∧ RepV (fun b => b < w'.heap.size) w' (C.1.getD nulV) l ∧ w'.ownsRow w0.heap.size 94 4 x C.2.length rs.flatten ∧ Rws (cfA (fun b => b < w'.heap.size) w') C.2 rs
def listW (l : List V) : V := .mk (zk 6) [] l []
theorem val_listW {w : World} {s : Value} {l : List V} (h : Lst w s l) : Val w (listW l) (vrow (zk 6) (.slice none 0 0) s (.slice none 0 0)) :=
  RepV.mk (v := listW l) ⟨0, 0, .inl ⟨rfl, rfl⟩, fun j x hj => by simp [listW, V.bytes] at hj⟩ h ⟨0, 0, .inl ⟨rfl, rfl⟩, by simp [listW, V.fields, RepFs]⟩
theorem fine_listW {l : List V} (hl : l.length ≤ 1048576) (h : ∀ x ∈ l, Fine x) : Fine (listW l) := by
  intro d
  cases d with
  | zero => trivial
  | succ d => exact ⟨by simp [listW, V.sc, zk], by simp [listW, V.sc, zk], by simp [listW, V.bytes], hl, by simp [listW, V.fields], fun x hx => h x hx d, fun x hx => by simp [listW, V.fields] at hx⟩
end Go.Dk
end
section
namespace Go.Proofs.Ytmkihcdcgkdilaa
open Go Go.Dk Go.RowKit
set_option linter.unusedSimpArgs false
set_option linter.unusedVariables false
attribute [local irreducible] Go.wpList Go.Code.wp Go.bodyPost Go.wpStill Go.wpQuiet
theorem bd33L (a : Option Addr) (n c : Nat) (w : World) : (Instr.build 33 ([(0, .int .i64 6), (6, .slice a n c)] : List (Nat × Value)).toArray).run Try.prog w = .ok (.agg (vrow (zk 6) (.slice none 0 0) (.slice a n c) (.slice none 0 0)).toArray) w := by
  unfold vrow zk
  go_simp
  rfl
theorem bd90 (w : World) : (Instr.build 90 ([] : List (Nat × Value)).toArray).run Try.prog w = .ok (.agg #[.slice none 0 0, .slice none 0 0]) w := by
  go_simp
theorem bd90s (a : Option Addr) (n c : Nat) (w : World) : (Instr.build 90 ([(0, .slice a n c)] : List (Nat × Value)).toArray).run Try.prog w = .ok (.agg #[.slice a n c, .slice none 0 0]) w := by
  go_simp

set_option maxRecDepth 10000 in
theorem c95 (a : Option Addr) (n c : Nat) (w0 : World) : Fc Try.prog 95 [.slice a n c] w0 (fun y w' => y = .agg (vrow (zk 6) (.slice none 0 0) (.slice a n c) (.slice none 0 0)).toArray) := by
  refine ret_enter Try.func95 rfl Try.ntmps95 rfl ?_
  have cx := Ctx.start w0
  refine wp_seq ?_
  refine wp_region_lit ?_
  refine s_alloc cx z33 rfl rfl rfl ?_; intro b2 w cx hb2 hw2
  refine wpList_nil ?_
  refine wp_seq ?_
  refine wp_region_lit ?_
  refine s_val rfl rfl (v_move rfl rfl) ?_
  refine s_val rfl rfl (v_build (bd33L _ _ _) rfl rfl) ?_
  refine s_storeAllG cx 0 rfl rfl rfl rfl rfl rfl sz33 rfl rfl ?_; intro w cx hg2
  refine wpList_nil ?_
  refine wp_ret ?_
  exact ret_cell Try.results95 rfl (cx.at 0 rfl) Try.underlying33 rfl sz33 ⟨cx.ext, rfl⟩

set_option maxRecDepth 10000 in
theorem c64 (l : List V) (s1 s2 : Value) (w0 : World) (h1 : Lst w0 s1 l) (h2 : Lst w0 s2 l) (hl : l.length ≤ 1048576) (hf : ∀ x ∈ l, Fine x) : Fc Try.prog 64 [s1, s2] w0 (IsB fun r => r = true) := by
  obtain ⟨a1, c1, b1, o1, rfl, _⟩ := id h1.open
  obtain ⟨a2, c2, b2, o2, rfl, _⟩ := id h2.open
  refine ret_enter Try.func64 rfl Try.ntmps64 rfl ?_
  have cx := Ctx.start w0
  refine wp_seq ?_
  refine wp_region_lit ?_
  refine s_val rfl rfl (v_assign rfl rfl) ?_
  refine wpList_nil ?_
  refine wp_seq ?_
  refine wp_region_lit ?_
  refine s_val rfl rfl (v_move rfl rfl) ?_
  refine s_fn cx (c95 a1 _ _ _) Try.func95 rfl rfl rfl rfl rfl rfl ?_; intro q6 w cx hw6 hp6
  subst hp6
  refine s_val rfl rfl (v_move rfl rfl) ?_
  refine s_fn cx (c95 a2 _ _ _) Try.func95 rfl rfl rfl rfl rfl rfl ?_; intro q8 w cx hw8 hp8
  subst hp8
  refine s_fnB cx (c22g (listW l) (listW l) _ _ _ (val_listW (h1.up cx.ext)) (val_listW (h2.up cx.ext)) (fine_listW hl hf) (fine_listW hl hf)) Try.func22 rfl rfl rfl rfl rfl rfl ?_; intro q9 w cx hw9 hp9
  refine s_val rfl rfl (v_assign rfl rfl) ?_
  refine wpList_nil ?_
  refine wp_ret ?_
  refine ret_tmp Try.results64 rfl ?_
  exact ⟨cx.ext, _, rfl, hp9.2 rfl⟩

set_option maxRecDepth 10000 in
set_option maxHeartbeats 3200000 in
theorem c35 (E : V → V → Bool) (hE : ∀ x y, E x y = true ↔ canon x = canon y) (m : Nat) (hm : m ≤ 300000) (b o t : V) (r0 r1 r2 : List Value) (w0 : World) (hb : Val w0 b r0) (ho : Val w0 o r1) (ht : Val w0 t r2) (gb : Gd 48 m b) (go : Gd 48 m o) (gt : Gd 48 m t) (hn : (mg E [] 48 0 [] (some b) (some o) (some t)).2.length ≤ 1048576) : Fc Try.prog 35 [.agg r0.toArray, .agg r1.toArray, .agg r2.toArray] w0 (ThQ w0 (mg E [] 48 0 [] (some b) (some o) (some t))) := by
  obtain ⟨u, hu⟩ := mg_some E [] 47 0 [] (some b) o t
  refine ret_enter Try.func35 rfl Try.ntmps35 rfl ?_
  have cx := Ctx.start w0
  refine wp_seq ?_
  refine wp_region_lit ?_
  refine s_box cx rfl rfl rfl rfl rfl ?_; intro b3 w cx hb3 hw3
  refine s_box cx rfl rfl rfl rfl rfl ?_; intro b4 w cx hb4 hw4
  refine s_box cx rfl rfl rfl rfl rfl ?_; intro b5 w cx hb5 hw5
  refine s_alloc cx z33 rfl rfl rfl ?_; intro b6 w cx hb6 hw6
  refine s_val rfl rfl (v_assign rfl rfl) ?_
  refine wpList_nil ?_
  refine wp_seq ?_
  refine wp_region_lit ?_
  refine s_val rfl rfl (v_build bd90 rfl rfl) ?_
  refine s_box cx rfl rfl rfl rfl (by rfl) ?_; intro b11 w cx hb11 hw11
  refine s_val rfl rfl (v_assign rfl rfl) ?_
  refine wpList_nil ?_
  refine wp_seq ?_
  refine wp_region_lit ?_
  refine s_val rfl rfl (v_move rfl rfl) ?_
  refine s_val rfl rfl (v_load rfl rfl Try.underlying33 rfl sz33 (cx.row 4 rfl) hb.len) ?_
  refine s_bsl1 cx Try.underlying91 sz33 z33 rfl rfl rfl rfl rfl rfl rfl hb.len ?_; intro b14 w cx hb14 hw14
  refine s_val rfl rfl (v_load rfl rfl Try.underlying33 rfl sz33 (cx.row 4 rfl) ho.len) ?_
  refine s_bsl1 cx Try.underlying91 sz33 z33 rfl rfl rfl rfl rfl rfl rfl ho.len ?_; intro b16 w cx hb16 hw16
  refine s_val rfl rfl (v_load rfl rfl Try.underlying33 rfl sz33 (cx.row 4 rfl) ht.len) ?_
  refine s_bsl1 cx Try.underlying91 sz33 z33 rfl rfl rfl rfl rfl rfl rfl ht.len ?_; intro b18 w cx hb18 hw18
  have cxA : Cxr w0 w [(b18, .cells r2.toArray 33), (b16, .cells r1.toArray 33), (b14, .cells r0.toArray 33), (b11, .cells ([(.slice none 0 0), .slice none 0 0] : List Value).toArray 90), (b6, .cells (vrow (zk 0) (.slice none 0 0) (.slice none 0 0) (.slice none 0 0)).toArray 33), (b5, .cells r2.toArray 33), (b4, .cells r1.toArray 33), (b3, .cells r0.toArray 33)] [] := cx
  have cxB : Cxr w0 w [(b11, .cells ([(.slice none 0 0), .slice none 0 0] : List Value).toArray 90), (b6, .cells (vrow (zk 0) (.slice none 0 0) (.slice none 0 0) (.slice none 0 0)).toArray 33)] [⟨94, 4, .slice none 0 0, 0, []⟩] := (cxA.subL (List.Sublist.cons _ (List.Sublist.cons _ (List.Sublist.cons _ (List.Sublist.cons_cons _ (List.Sublist.cons_cons _ (List.nil_sublist _))))))).nilRow 94 4
  have oF : ∀ q, F w [(b11, .cells ([(.slice none 0 0), .slice none 0 0] : List Value).toArray 90), (b6, .cells (vrow (zk 0) (.slice none 0 0) (.slice none 0 0) (.slice none 0 0)).toArray 33)] [] q → F w [(b11, .cells ([(.slice none 0 0), .slice none 0 0] : List Value).toArray 90), (b6, .cells (vrow (zk 0) (.slice none 0 0) (.slice none 0 0) (.slice none 0 0)).toArray 33)] [⟨94, 4, .slice none 0 0, 0, []⟩] q := (Fz.nilRow 94 4).up
  have p1 : RepL (F w [(b11, .cells ([(.slice none 0 0), .slice none 0 0] : List Value).toArray 90), (b6, .cells (vrow (zk 0) (.slice none 0 0) (.slice none 0 0) (.slice none 0 0)).toArray 33)] [⟨94, 4, .slice none 0 0, 0, []⟩]) w (.slice (some ⟨b14, 0, none⟩) 1 1) (some b : OV).toList := RepL.one1 (cxA.row 2 rfl) (hb.toF cxB) (oF _ (F.out (L' := [(b11, .cells ([(.slice none 0 0), .slice none 0 0] : List Value).toArray 90), (b6, .cells (vrow (zk 0) (.slice none 0 0) (.slice none 0 0) (.slice none 0 0)).toArray 33)]) cxA (i := 2) rfl (fun q hq => by rcases List.mem_cons.1 hq with rfl | hq; exact ⟨3, by decide, rfl⟩; rcases List.mem_cons.1 hq with rfl | hq; exact ⟨4, by decide, rfl⟩; cases hq)))
  have p2 : RepL (F w [(b11, .cells ([(.slice none 0 0), .slice none 0 0] : List Value).toArray 90), (b6, .cells (vrow (zk 0) (.slice none 0 0) (.slice none 0 0) (.slice none 0 0)).toArray 33)] [⟨94, 4, .slice none 0 0, 0, []⟩]) w (.slice (some ⟨b16, 0, none⟩) 1 1) (some o : OV).toList := RepL.one1 (cxA.row 1 rfl) (ho.toF cxB) (oF _ (F.out (L' := [(b11, .cells ([(.slice none 0 0), .slice none 0 0] : List Value).toArray 90), (b6, .cells (vrow (zk 0) (.slice none 0 0) (.slice none 0 0) (.slice none 0 0)).toArray 33)]) cxA (i := 1) rfl (fun q hq => by rcases List.mem_cons.1 hq with rfl | hq; exact ⟨3, by decide, rfl⟩; rcases List.mem_cons.1 hq with rfl | hq; exact ⟨4, by decide, rfl⟩; cases hq)))
  have p3 : RepL (F w [(b11, .cells ([(.slice none 0 0), .slice none 0 0] : List Value).toArray 90), (b6, .cells (vrow (zk 0) (.slice none 0 0) (.slice none 0 0) (.slice none 0 0)).toArray 33)] [⟨94, 4, .slice none 0 0, 0, []⟩]) w (.slice (some ⟨b18, 0, none⟩) 1 1) (some t : OV).toList := RepL.one1 (cxA.row 0 rfl) (ht.toF cxB) (oF _ (F.out (L' := [(b11, .cells ([(.slice none 0 0), .slice none 0 0] : List Value).toArray 90), (b6, .cells (vrow (zk 0) (.slice none 0 0) (.slice none 0 0) (.slice none 0 0)).toArray 33)]) cxA (i := 0) rfl (fun q hq => by rcases List.mem_cons.1 hq with rfl | hq; exact ⟨3, by decide, rfl⟩; rcases List.mem_cons.1 hq with rfl | hq; exact ⟨4, by decide, rfl⟩; cases hq)))
  have htks : TkS (F w [(b11, .cells ([(.slice none 0 0), .slice none 0 0] : List Value).toArray 90), (b6, .cells (vrow (zk 0) (.slice none 0 0) (.slice none 0 0) (.slice none 0 0)).toArray 33)] [⟨94, 4, .slice none 0 0, 0, []⟩]) w (.slice none 0 0) [] := ⟨none, 0, 0, 0, rfl, fun h => by simp at h⟩
  refine s_callR rfl rfl (runs_fn Try.func63 rfl rfl rfl rfl) (c63 E hE [] (by simp) m hm 48 w0 [(b11, .cells ([(.slice none 0 0), .slice none 0 0] : List Value).toArray 90), (b6, .cells (vrow (zk 0) (.slice none 0 0) (.slice none 0 0) (.slice none 0 0)).toArray 33)] [] 0 b11 (.slice none 0 0) (.slice none 0 0) 0 [] [] _ (some b) (some o) (some t) _ _ _ w cxB rfl htks PthA.nil p1 p2 p3 (GdO.some gb) (GdO.some go) (GdO.some gt) rfl (by simp) (by omega) (by omega)) ?_; intro q19 w hpC
  have hlow := cxA.ext.size
  clear cx cxA cxB
  have hO1 := hpC
  obtain ⟨v', rs', cx, hz, hqC, hcf⟩ := hO1
  simp only [List.set_cons_zero, Nat.zero_add, List.nil_append] at cx hz hqC hcf
  rw [hu] at hqC
  have hO2 := optF (o := some u) hqC
  obtain ⟨aq, cq, bq, fq, ubs, uls, ufs, rfl, hqf⟩ := hO2
  have hO3 := hqf rfl
  obtain ⟨rfl, hFq, hrq, hvq⟩ := hO3
  have hO4 := cx.ownRow
  obtain ⟨xa, xc, rfl, _⟩ := hO4
  have hzz := hz.self
  refine s_val rfl rfl (v_assign rfl rfl) ?_
  refine wpList_nil ?_
  refine wp_seq ?_
  refine w_ordK cx (cx.pick1 0 rfl) hzz.kp mixed [(0, 20), (1, 21), (2, 22), (3, 23), (4, 24), (5, 25), (6, 26)] #[true, true, true, true, true, true, true, false, false] (by kernel_rfl) (by kernel_rfl) (by kernel_rfl) (by kernel_rfl) ?_
  refine pu_one rfl (wnt_none rfl) (fun w hS => by obtain ⟨cx, hkS⟩ := hS; exact v_move rfl rfl) ?_
  refine pu_one rfl (wnt_none rfl) (fun w hS => by obtain ⟨cx, hkS⟩ := hS; exact v_ia Try.underlying91 sz33 rfl rfl rfl (by omega) (len_some rfl)) ?_
  refine pu_one rfl (wnt_none rfl) (fun w hS => by obtain ⟨cx, hkS⟩ := hS; exact v_load rfl rfl Try.underlying33 rfl sz33 (hrq.keep (hkS _ hFq)) rfl) ?_
  refine pu_one rfl (wnt_none rfl) (fun w hS => by obtain ⟨cx, hkS⟩ := hS; exact v_move rfl rfl) ?_
  refine pu_one rfl (wnt_none rfl) (fun w hS => by obtain ⟨cx, hkS⟩ := hS; exact v_nilCk rfl rfl) ?_
  refine pu_one rfl (wnt_none rfl) (fun w hS => by obtain ⟨cx, hkS⟩ := hS; exact v_fa fa90_1 rfl rfl) ?_
  refine pu_one rfl (wnt_none rfl) (fun w hS => by obtain ⟨cx, hkS⟩ := hS; exact v_load1 rfl rfl Try.underlying50 rfl (cx.cell 0 rfl rfl)) ?_
  refine pu_nil ?_; intro w cx hwD3 hkS3
  replace hzz := hzz.trans (Fz.below hwD3)
  replace hvq := (Fz.below hwD3).rep hvq
  replace hcf := (Fz.below hwD3).cfs hcf
  refine x_one (i := 7) (by kernel_rfl) rfl ?_
  refine s_storeAllG cx 1 rfl rfl rfl rfl rfl rfl sz33 rfl hvq.one ?_; intro w cx hgS
  have hzs := Fz.set (i := 1) (L := [(b11, .cells ([(.slice none 0 0), .slice xa (mg E [] 48 0 [] (some b) (some o) (some t)).2.length xc] : List Value).toArray 90), (b6, .cells (vrow (zk 0) (.slice none 0 0) (.slice none 0 0) (.slice none 0 0)).toArray 33)]) (R := [⟨94, 4, .slice xa (mg E [] 48 0 [] (some b) (some o) (some t)).2.length xc, (mg E [] 48 0 [] (some b) (some o) (some t)).2.length, rs'.flatten⟩]) (o' := .cells (vrow u.sc ubs uls ufs).toArray 33) rfl hgS
  replace hvq := hzs.rep hvq
  replace hcf := hzs.cfs hcf
  replace hzz := hzz.trans hzs
  refine x_next ⟨.inl ⟨cx.pick1 0 rfl, hzz.kp⟩, ?_⟩
  refine x_one (i := 8) (by kernel_rfl) rfl ?_
  refine s_val rfl rfl (v_assign rfl rfl) ?_
  refine x_next ⟨.inr (by kernel_rfl), ?_⟩
  refine x_done (by kernel_rfl) ?_
  refine wp_ret ?_
  refine ret_cell2 Try.results35 rfl rfl (cx.at 1 rfl) Try.underlying33 rfl sz33 ⟨cx.ext, vrow u.sc ubs uls ufs, _, rs', rfl, ?_, cx.head, hcf.imp fun _ _ h => h.mono (fun b hb => hb.1) (fun _ _ => rfl)⟩
  rw [hu]
  exact hvq.val

set_option maxRecDepth 10000 in
set_option maxHeartbeats 3200000 in
theorem c39 (E : V → V → Bool) (hE : ∀ x y, E x y = true ↔ canon x = canon y) (tk : List Bool) (htk : tk.length ≤ 1048576) (m : Nat) (hm : m ≤ 300000) (b o t : V) (r0 r1 r2 : List Value) (s : Value) (w0 : World) (hb : Val w0 b r0) (ho : Val w0 o r1) (ht : Val w0 t r2) (hs : Bls w0 s tk) (gb : Gd 48 m b) (go : Gd 48 m o) (gt : Gd 48 m t) (hn : (mg E tk 48 0 [] (some b) (some o) (some t)).2.length ≤ 1048576) : Fc Try.prog 39 [.agg r0.toArray, .agg r1.toArray, .agg r2.toArray, s] w0 (fun y w' => ∃ l : List Value, y = .tuple #[.agg l.toArray, .int .i64 ((mg E tk 48 0 [] (some b) (some o) (some t)).2.length : Int)] ∧ RepV (fun b => b < w'.heap.size) w' ((mg E tk 48 0 [] (some b) (some o) (some t)).1.getD nulV) l) := by
  obtain ⟨u, hu⟩ := mg_some E tk 47 0 [] (some b) o t
  obtain ⟨ta, tc, tb, to, rfl, hta⟩ := hs
  refine ret_enter Try.func39 rfl Try.ntmps39 rfl ?_
  have cx := Ctx.start w0
  refine wp_seq ?_
  refine wp_region_lit ?_
  refine s_box cx rfl rfl rfl rfl rfl ?_; intro b4 w cx hb4 hw4
  refine s_box cx rfl rfl rfl rfl rfl ?_; intro b5 w cx hb5 hw5
  refine s_box cx rfl rfl rfl rfl rfl ?_; intro b6 w cx hb6 hw6
  refine s_alloc cx z33 rfl rfl rfl ?_; intro b8 w cx hb8 hw8
  refine s_val rfl rfl (v_assign rfl rfl) ?_
  refine wpList_nil ?_
  refine wp_seq ?_
  refine wp_region_lit ?_
  refine s_val rfl rfl (v_move rfl rfl) ?_
  refine s_val rfl rfl (v_build (bd90s _ _ _) rfl rfl) ?_
  refine s_box cx rfl rfl rfl rfl (by rfl) ?_; intro b14 w cx hb14 hw14
  refine s_val rfl rfl (v_assign rfl rfl) ?_
  refine wpList_nil ?_
  refine wp_seq ?_
  refine wp_region_lit ?_
  refine s_val rfl rfl (v_move rfl rfl) ?_
  refine s_val rfl rfl (v_load rfl rfl Try.underlying33 rfl sz33 (cx.row 4 rfl) hb.len) ?_
  refine s_bsl1 cx Try.underlying91 sz33 z33 rfl rfl rfl rfl rfl rfl rfl hb.len ?_; intro b17 w cx hb17 hw17
  refine s_val rfl rfl (v_load rfl rfl Try.underlying33 rfl sz33 (cx.row 4 rfl) ho.len) ?_
  refine s_bsl1 cx Try.underlying91 sz33 z33 rfl rfl rfl rfl rfl rfl rfl ho.len ?_; intro b19 w cx hb19 hw19
  refine s_val rfl rfl (v_load rfl rfl Try.underlying33 rfl sz33 (cx.row 4 rfl) ht.len) ?_
  refine s_bsl1 cx Try.underlying91 sz33 z33 rfl rfl rfl rfl rfl rfl rfl ht.len ?_; intro b21 w cx hb21 hw21
  have cxA : Cxr w0 w [(b21, .cells r2.toArray 33), (b19, .cells r1.toArray 33), (b17, .cells r0.toArray 33), (b14, .cells ([(.slice ta tk.length tc), .slice none 0 0] : List Value).toArray 90), (b8, .cells (vrow (zk 0) (.slice none 0 0) (.slice none 0 0) (.slice none 0 0)).toArray 33), (b6, .cells r2.toArray 33), (b5, .cells r1.toArray 33), (b4, .cells r0.toArray 33)] [] := cx
  have cxB : Cxr w0 w [(b14, .cells ([(.slice ta tk.length tc), .slice none 0 0] : List Value).toArray 90), (b8, .cells (vrow (zk 0) (.slice none 0 0) (.slice none 0 0) (.slice none 0 0)).toArray 33)] [⟨94, 4, .slice none 0 0, 0, []⟩] := (cxA.subL (List.Sublist.cons _ (List.Sublist.cons _ (List.Sublist.cons _ (List.Sublist.cons_cons _ (List.Sublist.cons_cons _ (List.nil_sublist _))))))).nilRow 94 4
  have oF : ∀ q, F w [(b14, .cells ([(.slice ta tk.length tc), .slice none 0 0] : List Value).toArray 90), (b8, .cells (vrow (zk 0) (.slice none 0 0) (.slice none 0 0) (.slice none 0 0)).toArray 33)] [] q → F w [(b14, .cells ([(.slice ta tk.length tc), .slice none 0 0] : List Value).toArray 90), (b8, .cells (vrow (zk 0) (.slice none 0 0) (.slice none 0 0) (.slice none 0 0)).toArray 33)] [⟨94, 4, .slice none 0 0, 0, []⟩] q := (Fz.nilRow 94 4).up
  have p1 : RepL (F w [(b14, .cells ([(.slice ta tk.length tc), .slice none 0 0] : List Value).toArray 90), (b8, .cells (vrow (zk 0) (.slice none 0 0) (.slice none 0 0) (.slice none 0 0)).toArray 33)] [⟨94, 4, .slice none 0 0, 0, []⟩]) w (.slice (some ⟨b17, 0, none⟩) 1 1) (some b : OV).toList := RepL.one1 (cxA.row 2 rfl) (hb.toF cxB) (oF _ (F.out (L' := [(b14, .cells ([(.slice ta tk.length tc), .slice none 0 0] : List Value).toArray 90), (b8, .cells (vrow (zk 0) (.slice none 0 0) (.slice none 0 0) (.slice none 0 0)).toArray 33)]) cxA (i := 2) rfl (fun q hq => by rcases List.mem_cons.1 hq with rfl | hq; exact ⟨3, by decide, rfl⟩; rcases List.mem_cons.1 hq with rfl | hq; exact ⟨4, by decide, rfl⟩; cases hq)))
  have p2 : RepL (F w [(b14, .cells ([(.slice ta tk.length tc), .slice none 0 0] : List Value).toArray 90), (b8, .cells (vrow (zk 0) (.slice none 0 0) (.slice none 0 0) (.slice none 0 0)).toArray 33)] [⟨94, 4, .slice none 0 0, 0, []⟩]) w (.slice (some ⟨b19, 0, none⟩) 1 1) (some o : OV).toList := RepL.one1 (cxA.row 1 rfl) (ho.toF cxB) (oF _ (F.out (L' := [(b14, .cells ([(.slice ta tk.length tc), .slice none 0 0] : List Value).toArray 90), (b8, .cells (vrow (zk 0) (.slice none 0 0) (.slice none 0 0) (.slice none 0 0)).toArray 33)]) cxA (i := 1) rfl (fun q hq => by rcases List.mem_cons.1 hq with rfl | hq; exact ⟨3, by decide, rfl⟩; rcases List.mem_cons.1 hq with rfl | hq; exact ⟨4, by decide, rfl⟩; cases hq)))
  have p3 : RepL (F w [(b14, .cells ([(.slice ta tk.length tc), .slice none 0 0] : List Value).toArray 90), (b8, .cells (vrow (zk 0) (.slice none 0 0) (.slice none 0 0) (.slice none 0 0)).toArray 33)] [⟨94, 4, .slice none 0 0, 0, []⟩]) w (.slice (some ⟨b21, 0, none⟩) 1 1) (some t : OV).toList := RepL.one1 (cxA.row 0 rfl) (ht.toF cxB) (oF _ (F.out (L' := [(b14, .cells ([(.slice ta tk.length tc), .slice none 0 0] : List Value).toArray 90), (b8, .cells (vrow (zk 0) (.slice none 0 0) (.slice none 0 0) (.slice none 0 0)).toArray 33)]) cxA (i := 0) rfl (fun q hq => by rcases List.mem_cons.1 hq with rfl | hq; exact ⟨3, by decide, rfl⟩; rcases List.mem_cons.1 hq with rfl | hq; exact ⟨4, by decide, rfl⟩; cases hq)))
  have htks : TkS (F w [(b14, .cells ([(.slice ta tk.length tc), .slice none 0 0] : List Value).toArray 90), (b8, .cells (vrow (zk 0) (.slice none 0 0) (.slice none 0 0) (.slice none 0 0)).toArray 33)] [⟨94, 4, .slice none 0 0, 0, []⟩]) w (.slice ta tk.length tc) tk := ⟨ta, tc, tb, to, rfl, fun h0 => ⟨(hta h0).1, F.old cxB _ (hta h0).2.1, (hta h0).2.2.up cxB.ext⟩⟩
  refine s_callR rfl rfl (runs_fn Try.func63 rfl rfl rfl rfl) (c63 E hE tk htk m hm 48 w0 [(b14, .cells ([(.slice ta tk.length tc), .slice none 0 0] : List Value).toArray 90), (b8, .cells (vrow (zk 0) (.slice none 0 0) (.slice none 0 0) (.slice none 0 0)).toArray 33)] [] 0 b14 (.slice ta tk.length tc) (.slice none 0 0) 0 [] [] _ (some b) (some o) (some t) _ _ _ w cxB rfl htks PthA.nil p1 p2 p3 (GdO.some gb) (GdO.some go) (GdO.some gt) rfl (by simp) (by omega) (by omega)) ?_; intro q22 w hpC
  have hlow := cxA.ext.size
  clear cx cxA cxB
  have hO1 := hpC
  obtain ⟨v', rs', cx, hz, hqC, hcf⟩ := hO1
  simp only [List.set_cons_zero, Nat.zero_add, List.nil_append] at cx hz hqC hcf
  rw [hu] at hqC
  have hO2 := optF (o := some u) hqC
  obtain ⟨aq, cq, bq, fq, ubs, uls, ufs, rfl, hqf⟩ := hO2
  have hO3 := hqf rfl
  obtain ⟨rfl, hFq, hrq, hvq⟩ := hO3
  have hO4 := cx.ownRow
  obtain ⟨xa, xc, rfl, _⟩ := hO4
  have hzz := hz.self
  refine s_val rfl rfl (v_assign rfl rfl) ?_
  refine wpList_nil ?_
  refine wp_seq ?_
  refine w_ordK cx (cx.pick1 0 rfl) hzz.kp mixed [(0, 23), (1, 24), (2, 25), (3, 26), (4, 27), (5, 28), (6, 29), (7, 30)] #[true, true, true, true, true, true, true, true, false, false] (by kernel_rfl) (by kernel_rfl) (by kernel_rfl) (by kernel_rfl) ?_
  refine pu_one rfl (wnt_none rfl) (fun w hS => by obtain ⟨cx, hkS⟩ := hS; exact v_move rfl rfl) ?_
  refine pu_one rfl (wnt_none rfl) (fun w hS => by obtain ⟨cx, hkS⟩ := hS; exact v_ia Try.underlying91 sz33 rfl rfl rfl (by omega) (len_some rfl)) ?_
  refine pu_one rfl (wnt_none rfl) (fun w hS => by obtain ⟨cx, hkS⟩ := hS; exact v_load rfl rfl Try.underlying33 rfl sz33 (hrq.keep (hkS _ hFq)) rfl) ?_
  refine pu_one rfl (wnt_none rfl) (fun w hS => by obtain ⟨cx, hkS⟩ := hS; exact v_move rfl rfl) ?_
  refine pu_one rfl (wnt_none rfl) (fun w hS => by obtain ⟨cx, hkS⟩ := hS; exact v_nilCk rfl rfl) ?_
  refine pu_one rfl (wnt_none rfl) (fun w hS => by obtain ⟨cx, hkS⟩ := hS; exact v_fa fa90_1 rfl rfl) ?_
  refine pu_one rfl (wnt_none rfl) (fun w hS => by obtain ⟨cx, hkS⟩ := hS; exact v_load1 rfl rfl Try.underlying50 rfl (cx.cell 0 rfl rfl)) ?_
  refine pu_one rfl (wnt_none rfl) (fun w hS => by obtain ⟨cx, hkS⟩ := hS; exact v_lenSlice rfl rfl Try.underlying50) ?_
  refine pu_nil ?_; intro w cx hwD3 hkS3
  replace hzz := hzz.trans (Fz.below hwD3)
  replace hvq := (Fz.below hwD3).rep hvq
  replace hcf := (Fz.below hwD3).cfs hcf
  refine x_one (i := 8) (by kernel_rfl) rfl ?_
  refine s_storeAllG cx 1 rfl rfl rfl rfl rfl rfl sz33 rfl hvq.one ?_; intro w cx hgS
  have hzs := Fz.set (i := 1) (L := [(b14, .cells ([(.slice ta tk.length tc), .slice xa (mg E tk 48 0 [] (some b) (some o) (some t)).2.length xc] : List Value).toArray 90), (b8, .cells (vrow (zk 0) (.slice none 0 0) (.slice none 0 0) (.slice none 0 0)).toArray 33)]) (R := [⟨94, 4, .slice xa (mg E tk 48 0 [] (some b) (some o) (some t)).2.length xc, (mg E tk 48 0 [] (some b) (some o) (some t)).2.length, rs'.flatten⟩]) (o' := .cells (vrow u.sc ubs uls ufs).toArray 33) rfl hgS
  replace hvq := hzs.rep hvq
  replace hcf := hzs.cfs hcf
  replace hzz := hzz.trans hzs
  refine x_next ⟨.inl ⟨cx.pick1 0 rfl, hzz.kp⟩, ?_⟩
  refine x_one (i := 9) (by kernel_rfl) rfl ?_
  refine s_val rfl rfl (v_assign rfl rfl) ?_
  refine x_next ⟨.inr (by kernel_rfl), ?_⟩
  refine x_done (by kernel_rfl) ?_
  refine wp_ret ?_
  refine ret_cell2 Try.results39 rfl rfl (cx.at 1 rfl) Try.underlying33 rfl sz33 ⟨cx.ext, vrow u.sc ubs uls ufs, rfl, ?_⟩
  rw [hu]
  exact hvq.val
end Go.Proofs.Ytmkihcdcgkdilaa
end
section
namespace Go.Proofs.Ytmkihcdcgkdilaa
open Go Go.Dk Go.RowKit
set_option linter.unusedSimpArgs false
set_option linter.unusedVariables false
attribute [local irreducible] Go.wpList Go.Code.wp Go.bodyPost Go.wpStill Go.wpQuiet
theorem classic_eqR : ∃ E : V → V → Bool, ∀ x y, E x y = true ↔ canon x = canon y := ⟨fun x y => @decide (canon x = canon y) (Classical.propDecidable _), fun x y => @decide_eq_true_iff _ (Classical.propDecidable _)⟩
theorem anyR {w : World} {v : V} {r : List Value} (h : RepV (fun b => b < w.heap.size) w v r) : RepV (F w [] []) w v r := RepV.mono (fun b hb => ⟨hb, by simp, by simp⟩) (fun _ _ => rfl) _ _ h
theorem row57 {w : World} {b : Nat} {r0 r1 r2 : List Value} {s : Value} (l0 : r0.length = 13) (l1 : r1.length = 13) (l2 : r2.length = 13) (h : RowAt w b 0 (r0 ++ r1 ++ r2 ++ [s])) : RowAt w b (0 + 0) r0 ∧ RowAt w b (0 + 13) r1 ∧ RowAt w b (0 + 26) r2 ∧ w.cell? ⟨b, 0 + 39, none⟩ = some s := by
  refine ⟨fun j x hj => ?_, fun j x hj => ?_, fun j x hj => ?_, ?_⟩
  · have hlt := (List.getElem?_eq_some_iff.1 hj).1
    have := h j x (by rw [List.append_assoc, List.append_assoc, List.getElem?_append_left hlt]; exact hj)
    simpa using this
  · have hlt := (List.getElem?_eq_some_iff.1 hj).1
    have := h (13 + j) x (by rw [List.append_assoc, List.append_assoc, List.getElem?_append_right (by omega), List.getElem?_append_left (by omega), show 13 + j - r0.length = j by omega]; exact hj)
    simpa [Nat.add_assoc] using this
  · have hlt := (List.getElem?_eq_some_iff.1 hj).1
    have := h (26 + j) x (by rw [List.append_assoc, List.append_assoc, List.getElem?_append_right (by omega), List.getElem?_append_right (by omega), List.getElem?_append_left (by omega), show 26 + j - r0.length - r1.length = j by omega]; exact hj)
    simpa [Nat.add_assoc] using this
  · exact h 39 s (by rw [List.getElem?_append_right (by simp; omega)]; simp [l0, l1, l2])

set_option maxRecDepth 10000 in
set_option maxHeartbeats 3200000 in
theorem c13 (bv ov tv : V) (tk : List Bool) (r0 r1 r2 : List Value) (s : Value) (w0 : World) (h0 : Val w0 bv r0) (h1 : Val w0 ov r1) (h2 : Val w0 tv r2) (hs : Bls w0 s tk) (htk : tk.length ≤ 1048576) (hf0 : Fine bv) (hf1 : Fine ov) (hf2 : Fine tv) : Fc Try.prog 13 [.agg (r0 ++ r1 ++ r2 ++ [s]).toArray] w0 (IsB fun b => b = true) := by
  obtain ⟨E, hE⟩ := classic_eqR
  refine ret_enter Try.func13 rfl Try.ntmps13 rfl ?_
  have cx := Ctx.start w0
  refine wp_seq ?_
  refine wp_region_lit ?_
  refine s_box cx rfl rfl rfl rfl rfl ?_; intro b1 w cx hb1 hw1
  refine s_val rfl rfl (v_assign rfl rfl) ?_
  refine wpList_nil ?_
  refine wp_seq ?_
  refine wp_seq ?_
  refine wp_region_lit ?_
  refine s_val rfl rfl (v_fa fa57_0 rfl rfl) ?_
  refine s_val rfl rfl (v_load rfl rfl Try.underlying33 rfl sz33 (row57 h0.len h1.len h2.len (cx.row 0 rfl)).1 h0.len) ?_
  refine s_fnB cx (c20 bv _ _ (h0.up cx.ext) hf0) Try.func20 rfl rfl rfl rfl rfl rfl ?_; intro q13 w cx hw13 hp13
  refine s_val rfl rfl (v_not rfl rfl) ?_
  refine s_val rfl rfl (v_move rfl rfl) ?_
  refine s_gval rfl rfl rfl (by first | exact w_ff rfl | exact w_gf rfl) (fun hc => v_fa fa57_1 rfl rfl) ?_
  refine s_gval rfl rfl rfl (by first | exact w_ff rfl | exact w_gf rfl) (fun hc => v_load rfl (gve hc rfl) Try.underlying33 rfl sz33 (row57 h0.len h1.len h2.len (cx.row 0 rfl)).2.1 h1.len) ?_
  refine s_gfnB cx rfl rfl rfl (by first | exact w_ff rfl | exact w_gf rfl) (fun hc => c20 ov _ _ (h1.up cx.ext) hf1) Try.func20 rfl rfl rfl (fun hc => (cons_eq (gve hc rfl) rfl)) ?_; intro q18 w cx hw18 hp18
  refine s_gval rfl rfl rfl (by first | exact w_ff rfl | exact w_gf rfl) (fun hc => v_not rfl (by first | exact gve hc rfl | exact gve (and_l hc) rfl | exact gve (and_l (and_l hc)) rfl | rfl)) ?_
  refine s_val rfl rfl (v_or rfl rfl rfl rfl) ?_
  refine s_val rfl rfl (v_move rfl rfl) ?_
  refine s_gval rfl rfl rfl (by first | exact w_ff rfl | exact w_gf rfl) (fun hc => v_fa fa57_2 rfl rfl) ?_
  refine s_gval rfl rfl rfl (by first | exact w_ff rfl | exact w_gf rfl) (fun hc => v_load rfl (gve hc rfl) Try.underlying33 rfl sz33 (row57 h0.len h1.len h2.len (cx.row 0 rfl)).2.2.1 h2.len) ?_
  refine s_gfnB cx rfl rfl rfl (by first | exact w_ff rfl | exact w_gf rfl) (fun hc => c20 tv _ _ (h2.up cx.ext) hf2) Try.func20 rfl rfl rfl (fun hc => (cons_eq (gve hc rfl) rfl)) ?_; intro q24 w cx hw24 hp24
  refine s_gval rfl rfl rfl (by first | exact w_ff rfl | exact w_gf rfl) (fun hc => v_not rfl (by first | exact gve hc rfl | exact gve (and_l hc) rfl | exact gve (and_l (and_l hc)) rfl | rfl)) ?_
  refine s_val rfl rfl (v_or rfl rfl rfl rfl) ?_
  refine wpList_nil ?_
  refine c_split rfl (fun hc26 => ?_) (fun hc26 => ?_)
  · skip
    try simp only [Bool.and_eq_true, Bool.or_eq_true, Bool.and_eq_false_iff, Bool.or_eq_false_iff, Bool.not_eq_true', Bool.not_eq_false', decide_eq_true_eq, decide_eq_false_iff_not, beq_iff_eq, beq_eq_false_iff_ne, bne_iff_ne, bne_eq_false_iff_eq, ne_eq, Classical.not_not] at hc26
    refine wp_seq ?_
    refine wp_region_lit ?_
    refine s_val rfl rfl (v_assign rfl rfl) ?_
    refine wpList_nil ?_
    refine wp_ret ?_
    refine ret_tmp Try.results13 rfl ?_
    exact ⟨cx.ext, _, rfl, rfl⟩
  · skip
    try simp only [Bool.and_eq_true, Bool.or_eq_true, Bool.and_eq_false_iff, Bool.or_eq_false_iff, Bool.not_eq_true', Bool.not_eq_false', decide_eq_true_eq, decide_eq_false_iff_not, beq_iff_eq, beq_eq_false_iff_ne, bne_iff_ne, bne_eq_false_iff_eq, ne_eq, Classical.not_not] at hc26
    have hO0 := hp13 hc26.1.1
    obtain ⟨o0, d0, t0⟩ := hO0
    have hO1 := hp18 (by rw [hc26.1.1]; rfl) hc26.1.2
    obtain ⟨o1, d1, t1⟩ := hO1
    have hO2 := hp24 (by rw [hc26.1.1, hc26.1.2]; rfl) hc26.2
    obtain ⟨o2, d2, t2⟩ := hO2
    have g0 := good_valid bv o0 d0 t0 hf0
    have g1 := good_valid ov o1 d1 t1 hf1
    have g2 := good_valid tv o2 d2 t2 hf2
    have hUA := mg_some E tk 47 0 [] (some bv) ov tv
    obtain ⟨ua, hua⟩ := hUA
    have hga : Gd 48 (3 * 100) ua := mg_gd E tk (by omega) 48 0 [] _ _ _ (GdO.some g0) (GdO.some g1) (GdO.some g2) ua hua
    have hUC := mg_some E [] 47 0 [] (some bv) ov tv
    obtain ⟨uc, huc⟩ := hUC
    have hgc : Gd 48 (3 * 100) uc := mg_gd E [] (by omega) 48 0 [] _ _ _ (GdO.some g0) (GdO.some g1) (GdO.some g2) uc huc
    refine wp_skip ?_
    refine wp_seq ?_
    refine wp_region_lit ?_
    refine s_val rfl rfl (v_fa fa57_0 rfl rfl) ?_
    refine s_val rfl rfl (v_load rfl rfl Try.underlying33 rfl sz33 (row57 h0.len h1.len h2.len (cx.row 0 rfl)).1 h0.len) ?_
    refine s_val rfl rfl (v_fa fa57_1 rfl rfl) ?_
    refine s_val rfl rfl (v_load rfl rfl Try.underlying33 rfl sz33 (row57 h0.len h1.len h2.len (cx.row 0 rfl)).2.1 h1.len) ?_
    refine s_val rfl rfl (v_fa fa57_2 rfl rfl) ?_
    refine s_val rfl rfl (v_load rfl rfl Try.underlying33 rfl sz33 (row57 h0.len h1.len h2.len (cx.row 0 rfl)).2.2.1 h2.len) ?_
    refine s_val rfl rfl (v_fa fa57_3 rfl rfl) ?_
    refine s_val rfl rfl (v_load1 rfl rfl Try.underlying55 rfl (row57 h0.len h1.len h2.len (cx.row 0 rfl)).2.2.2) ?_
    have cx36c := cx
    refine s_fn cx (c38 E hE tk htk 100 (by omega) bv ov tv _ _ _ _ _ (h0.up cx.ext) (h1.up cx.ext) (h2.up cx.ext) (hs.up cx.ext) g0 g1 g2 (by have := mg_few (E := E) (tk := tk) ⟨o0, t0⟩ ⟨o1, t1⟩ ⟨o2, t2⟩; omega)) Try.func38 rfl rfl rfl rfl rfl rfl ?_; intro q36 w cx hw36 hp36
    have hO36 := hp36
    obtain ⟨l3, rfl, hl3⟩ := hO36
    have hf3 := RepV.fr hl3 cx36c hw36.size
    rw [hua] at hf3
    refine s_val rfl rfl (v_move rfl rfl) ?_
    refine s_val rfl rfl (v_extract rfl rfl rfl) ?_
    refine s_val rfl rfl (v_extract rfl rfl rfl) ?_
    refine s_alloc cx z33 rfl rfl rfl ?_; intro b3 w cx hb3 hw3
    replace hf3 := (Fz.new (o := .cells (vrow (zk 0) (.slice none 0 0) (.slice none 0 0) (.slice none 0 0)).toArray 33) hb3 hw3).rep hf3
    refine s_storeAllG cx 0 rfl rfl rfl rfl rfl rfl (by rw [hl3.len]; exact sz33) (by rw [hl3.len]; rfl) hl3.one ?_; intro w cx hg3
    replace cx := cx.set0
    replace hf3 : RepV (F w ((b3, .cells l3.toArray 33) :: [(b1, .cells (r0 ++ r1 ++ r2 ++ [s]).toArray 57)]) []) w _ _ := (Fz.set (i := 0) (R := []) (L := (b3, .cells (vrow (zk 0) (.slice none 0 0) (.slice none 0 0) (.slice none 0 0)).toArray 33) :: [(b1, .cells (r0 ++ r1 ++ r2 ++ [s]).toArray 57)]) (o' := .cells l3.toArray 33) rfl hg3).rep hf3
    refine s_val rfl rfl (v_assign rfl rfl) ?_
    refine wpList_nil ?_
    refine wp_seq ?_
    refine wp_region_lit ?_
    refine s_val rfl rfl (v_fa fa57_0 rfl rfl) ?_
    refine s_val rfl rfl (v_load rfl rfl Try.underlying33 rfl sz33 (row57 h0.len h1.len h2.len (cx.row 1 rfl)).1 h0.len) ?_
    refine s_val rfl rfl (v_fa fa57_1 rfl rfl) ?_
    refine s_val rfl rfl (v_load rfl rfl Try.underlying33 rfl sz33 (row57 h0.len h1.len h2.len (cx.row 1 rfl)).2.1 h1.len) ?_
    refine s_val rfl rfl (v_fa fa57_2 rfl rfl) ?_
    refine s_val rfl rfl (v_load rfl rfl Try.underlying33 rfl sz33 (row57 h0.len h1.len h2.len (cx.row 1 rfl)).2.2.1 h2.len) ?_
    refine s_val rfl rfl (v_fa fa57_3 rfl rfl) ?_
    refine s_val rfl rfl (v_load1 rfl rfl Try.underlying55 rfl (row57 h0.len h1.len h2.len (cx.row 1 rfl)).2.2.2) ?_
    refine s_fn cx (c39 E hE tk htk 100 (by omega) bv ov tv _ _ _ _ _ (h0.up cx.ext) (h1.up cx.ext) (h2.up cx.ext) (hs.up cx.ext) g0 g1 g2 (by have := mg_few (E := E) (tk := tk) ⟨o0, t0⟩ ⟨o1, t1⟩ ⟨o2, t2⟩; omega)) Try.func39 rfl rfl rfl rfl rfl rfl ?_; intro q48 w cx hw48 hp48
    replace hf3 := (Fz.below hw48).rep hf3
    have hO48 := hp48
    obtain ⟨l5, rfl, hl5⟩ := hO48
    have hf5 := anyR hl5
    rw [hua] at hf5
    refine s_val rfl rfl (v_move rfl rfl) ?_
    refine s_val rfl rfl (v_extract rfl rfl rfl) ?_
    refine s_val rfl rfl (v_extract rfl rfl rfl) ?_
    refine s_alloc cx z33 rfl rfl rfl ?_; intro b5 w cx hb5 hw5
    replace hf3 := (Fz.new (o := .cells (vrow (zk 0) (.slice none 0 0) (.slice none 0 0) (.slice none 0 0)).toArray 33) hb5 hw5).rep hf3
    replace hf5 := (Fz.new (o := .cells (vrow (zk 0) (.slice none 0 0) (.slice none 0 0) (.slice none 0 0)).toArray 33) hb5 hw5).rep hf5
    refine s_storeAllG cx 0 rfl rfl rfl rfl rfl rfl (by rw [hl5.len]; exact sz33) (by rw [hl5.len]; rfl) hl5.one ?_; intro w cx hg5
    replace cx := cx.set0
    replace hf3 : RepV (F w ((b5, .cells l5.toArray 33) :: [(b3, .cells l3.toArray 33), (b1, .cells (r0 ++ r1 ++ r2 ++ [s]).toArray 57)]) []) w _ _ := (Fz.set (i := 0) (R := []) (L := (b5, .cells (vrow (zk 0) (.slice none 0 0) (.slice none 0 0) (.slice none 0 0)).toArray 33) :: [(b3, .cells l3.toArray 33), (b1, .cells (r0 ++ r1 ++ r2 ++ [s]).toArray 57)]) (o' := .cells l5.toArray 33) rfl hg5).rep hf3
    replace hf5 : RepV (F w ((b5, .cells l5.toArray 33) :: []) []) w _ _ := (Fz.set (i := 0) (R := []) (L := (b5, .cells (vrow (zk 0) (.slice none 0 0) (.slice none 0 0) (.slice none 0 0)).toArray 33) :: []) (o' := .cells l5.toArray 33) rfl hg5).rep hf5
    refine s_val rfl rfl (v_assign rfl rfl) ?_
    refine wpList_nil ?_
    refine wp_seq ?_
    refine wp_region_lit ?_
    refine s_val rfl rfl (v_fa fa57_0 rfl rfl) ?_
    refine s_val rfl rfl (v_load rfl rfl Try.underlying33 rfl sz33 (row57 h0.len h1.len h2.len (cx.row 2 rfl)).1 h0.len) ?_
    refine s_val rfl rfl (v_fa fa57_1 rfl rfl) ?_
    refine s_val rfl rfl (v_load rfl rfl Try.underlying33 rfl sz33 (row57 h0.len h1.len h2.len (cx.row 2 rfl)).2.1 h1.len) ?_
    refine s_val rfl rfl (v_fa fa57_2 rfl rfl) ?_
    refine s_val rfl rfl (v_load rfl rfl Try.underlying33 rfl sz33 (row57 h0.len h1.len h2.len (cx.row 2 rfl)).2.2.1 h2.len) ?_
    have cx58c := cx
    refine s_fn cx (c38 E hE [] (by simp) 100 (by omega) bv ov tv _ _ _ _ _ (h0.up cx.ext) (h1.up cx.ext) (h2.up cx.ext) Bls.nil g0 g1 g2 (by have := mg_few (E := E) (tk := []) ⟨o0, t0⟩ ⟨o1, t1⟩ ⟨o2, t2⟩; omega)) Try.func38 rfl rfl rfl rfl rfl rfl ?_; intro q58 w cx hw58 hp58
    replace hf3 := (Fz.below hw58).rep hf3
    replace hf5 := (Fz.below hw58).rep hf5
    have hO58 := hp58
    obtain ⟨l7, rfl, hl7⟩ := hO58
    have hf7 := RepV.fr hl7 cx58c hw58.size
    rw [huc] at hf7
    refine s_val rfl rfl (v_move rfl rfl) ?_
    refine s_val rfl rfl (v_extract rfl rfl rfl) ?_
    refine s_val rfl rfl (v_extract rfl rfl rfl) ?_
    refine s_alloc cx z33 rfl rfl rfl ?_; intro b7 w cx hb7 hw7
    replace hf3 := (Fz.new (o := .cells (vrow (zk 0) (.slice none 0 0) (.slice none 0 0) (.slice none 0 0)).toArray 33) hb7 hw7).rep hf3
    replace hf5 := (Fz.new (o := .cells (vrow (zk 0) (.slice none 0 0) (.slice none 0 0) (.slice none 0 0)).toArray 33) hb7 hw7).rep hf5
    replace hf7 := (Fz.new (o := .cells (vrow (zk 0) (.slice none 0 0) (.slice none 0 0) (.slice none 0 0)).toArray 33) hb7 hw7).rep hf7
    refine s_storeAllG cx 0 rfl rfl rfl rfl rfl rfl (by rw [hl7.len]; exact sz33) (by rw [hl7.len]; rfl) hl7.one ?_; intro w cx hg7
    replace cx := cx.set0
    replace hf3 : RepV (F w ((b7, .cells l7.toArray 33) :: [(b5, .cells l5.toArray 33), (b3, .cells l3.toArray 33), (b1, .cells (r0 ++ r1 ++ r2 ++ [s]).toArray 57)]) []) w _ _ := (Fz.set (i := 0) (R := []) (L := (b7, .cells (vrow (zk 0) (.slice none 0 0) (.slice none 0 0) (.slice none 0 0)).toArray 33) :: [(b5, .cells l5.toArray 33), (b3, .cells l3.toArray 33), (b1, .cells (r0 ++ r1 ++ r2 ++ [s]).toArray 57)]) (o' := .cells l7.toArray 33) rfl hg7).rep hf3
    replace hf5 : RepV (F w ((b7, .cells l7.toArray 33) :: [(b5, .cells l5.toArray 33)]) []) w _ _ := (Fz.set (i := 0) (R := []) (L := (b7, .cells (vrow (zk 0) (.slice none 0 0) (.slice none 0 0) (.slice none 0 0)).toArray 33) :: [(b5, .cells l5.toArray 33)]) (o' := .cells l7.toArray 33) rfl hg7).rep hf5
    replace hf7 : RepV (F w ((b7, .cells l7.toArray 33) :: [(b5, .cells l5.toArray 33), (b3, .cells l3.toArray 33), (b1, .cells (r0 ++ r1 ++ r2 ++ [s]).toArray 57)]) []) w _ _ := (Fz.set (i := 0) (R := []) (L := (b7, .cells (vrow (zk 0) (.slice none 0 0) (.slice none 0 0) (.slice none 0 0)).toArray 33) :: [(b5, .cells l5.toArray 33), (b3, .cells l3.toArray 33), (b1, .cells (r0 ++ r1 ++ r2 ++ [s]).toArray 57)]) (o' := .cells l7.toArray 33) rfl hg7).rep hf7
    refine s_val rfl rfl (v_assign rfl rfl) ?_
    refine wpList_nil ?_
    refine wp_seq ?_
    refine wp_region_lit ?_
    refine s_val rfl rfl (v_fa fa57_0 rfl rfl) ?_
    refine s_val rfl rfl (v_load rfl rfl Try.underlying33 rfl sz33 (row57 h0.len h1.len h2.len (cx.row 3 rfl)).1 h0.len) ?_
    refine s_val rfl rfl (v_fa fa57_1 rfl rfl) ?_
    refine s_val rfl rfl (v_load rfl rfl Try.underlying33 rfl sz33 (row57 h0.len h1.len h2.len (cx.row 3 rfl)).2.1 h1.len) ?_
    refine s_val rfl rfl (v_fa fa57_2 rfl rfl) ?_
    refine s_val rfl rfl (v_load rfl rfl Try.underlying33 rfl sz33 (row57 h0.len h1.len h2.len (cx.row 3 rfl)).2.2.1 h2.len) ?_
    have cx68c := cx
    refine s_fn cx (c34 E hE 100 (by omega) bv ov tv _ _ _ _ (h0.up cx.ext) (h1.up cx.ext) (h2.up cx.ext) g0 g1 g2 (by have := mg_few (E := E) (tk := []) ⟨o0, t0⟩ ⟨o1, t1⟩ ⟨o2, t2⟩; omega)) Try.func34 rfl rfl rfl rfl rfl rfl ?_; intro q68 w cx hw68 hp68
    replace hf3 := (Fz.below hw68).rep hf3
    replace hf5 := (Fz.below hw68).rep hf5
    replace hf7 := (Fz.below hw68).rep hf7
    have hO68 := hp68
    obtain ⟨l9, x9, rs9, rfl, hl9, hrow9, _⟩ := hO68
    have hP68 := own_row hrow9
    obtain ⟨xa9, xc9, rfl, _⟩ := hP68
    have hf9 := RepV.fr hl9 cx68c hw68.size
    rw [huc] at hf9
    refine s_val rfl rfl (v_move rfl rfl) ?_
    refine s_val rfl rfl (v_extract rfl rfl rfl) ?_
    refine s_val rfl rfl (v_extract rfl rfl rfl) ?_
    refine s_alloc cx z33 rfl rfl rfl ?_; intro b9 w cx hb9 hw9
    replace hf3 := (Fz.new (o := .cells (vrow (zk 0) (.slice none 0 0) (.slice none 0 0) (.slice none 0 0)).toArray 33) hb9 hw9).rep hf3
    replace hf5 := (Fz.new (o := .cells (vrow (zk 0) (.slice none 0 0) (.slice none 0 0) (.slice none 0 0)).toArray 33) hb9 hw9).rep hf5
    replace hf7 := (Fz.new (o := .cells (vrow (zk 0) (.slice none 0 0) (.slice none 0 0) (.slice none 0 0)).toArray 33) hb9 hw9).rep hf7
    replace hf9 := (Fz.new (o := .cells (vrow (zk 0) (.slice none 0 0) (.slice none 0 0) (.slice none 0 0)).toArray 33) hb9 hw9).rep hf9
    refine s_storeAllG cx 0 rfl rfl rfl rfl rfl rfl (by rw [hl9.len]; exact sz33) (by rw [hl9.len]; rfl) hl9.one ?_; intro w cx hg9
    replace cx := cx.set0
    replace hf3 : RepV (F w ((b9, .cells l9.toArray 33) :: [(b7, .cells l7.toArray 33), (b5, .cells l5.toArray 33), (b3, .cells l3.toArray 33), (b1, .cells (r0 ++ r1 ++ r2 ++ [s]).toArray 57)]) []) w _ _ := (Fz.set (i := 0) (R := []) (L := (b9, .cells (vrow (zk 0) (.slice none 0 0) (.slice none 0 0) (.slice none 0 0)).toArray 33) :: [(b7, .cells l7.toArray 33), (b5, .cells l5.toArray 33), (b3, .cells l3.toArray 33), (b1, .cells (r0 ++ r1 ++ r2 ++ [s]).toArray 57)]) (o' := .cells l9.toArray 33) rfl hg9).rep hf3
    replace hf5 : RepV (F w ((b9, .cells l9.toArray 33) :: [(b7, .cells l7.toArray 33), (b5, .cells l5.toArray 33)]) []) w _ _ := (Fz.set (i := 0) (R := []) (L := (b9, .cells (vrow (zk 0) (.slice none 0 0) (.slice none 0 0) (.slice none 0 0)).toArray 33) :: [(b7, .cells l7.toArray 33), (b5, .cells l5.toArray 33)]) (o' := .cells l9.toArray 33) rfl hg9).rep hf5
    replace hf7 : RepV (F w ((b9, .cells l9.toArray 33) :: [(b7, .cells l7.toArray 33), (b5, .cells l5.toArray 33), (b3, .cells l3.toArray 33), (b1, .cells (r0 ++ r1 ++ r2 ++ [s]).toArray 57)]) []) w _ _ := (Fz.set (i := 0) (R := []) (L := (b9, .cells (vrow (zk 0) (.slice none 0 0) (.slice none 0 0) (.slice none 0 0)).toArray 33) :: [(b7, .cells l7.toArray 33), (b5, .cells l5.toArray 33), (b3, .cells l3.toArray 33), (b1, .cells (r0 ++ r1 ++ r2 ++ [s]).toArray 57)]) (o' := .cells l9.toArray 33) rfl hg9).rep hf7
    replace hf9 : RepV (F w ((b9, .cells l9.toArray 33) :: [(b7, .cells l7.toArray 33), (b5, .cells l5.toArray 33), (b3, .cells l3.toArray 33), (b1, .cells (r0 ++ r1 ++ r2 ++ [s]).toArray 57)]) []) w _ _ := (Fz.set (i := 0) (R := []) (L := (b9, .cells (vrow (zk 0) (.slice none 0 0) (.slice none 0 0) (.slice none 0 0)).toArray 33) :: [(b7, .cells l7.toArray 33), (b5, .cells l5.toArray 33), (b3, .cells l3.toArray 33), (b1, .cells (r0 ++ r1 ++ r2 ++ [s]).toArray 57)]) (o' := .cells l9.toArray 33) rfl hg9).rep hf9
    refine s_val rfl rfl (v_assign rfl rfl) ?_
    refine wpList_nil ?_
    refine wp_seq ?_
    refine wp_region_lit ?_
    refine s_val rfl rfl (v_load rfl rfl Try.underlying33 rfl sz33 (cx.row 3 rfl) hl3.len) ?_
    refine s_val rfl rfl (v_load rfl rfl Try.underlying33 rfl sz33 (cx.row 2 rfl) hl5.len) ?_
    refine s_fnB cx (c22g ua ua _ _ _ hf3.val hf5.val hga.fine hga.fine) Try.func22 rfl rfl rfl rfl rfl rfl ?_; intro q73 w cx hw73 hp73
    replace hf7 := (Fz.below hw73).rep hf7
    replace hf9 := (Fz.below hw73).rep hf9
    refine s_val rfl rfl (v_move rfl rfl) ?_
    refine s_gval rfl rfl rfl (by first | exact w_tt rfl | exact w_gt rfl) (fun hc => v_move rfl (by first | exact gve hc rfl | exact gve (and_l hc) rfl | exact gve (and_l (and_l hc)) rfl | rfl)) ?_
    refine s_gval rfl rfl rfl (by first | exact w_tt rfl | exact w_gt rfl) (fun hc => v_move rfl (by first | exact gve hc rfl | exact gve (and_l hc) rfl | exact gve (and_l (and_l hc)) rfl | rfl)) ?_
    refine s_gval rfl rfl rfl (by first | exact w_tt rfl | exact w_gt rfl) (fun hc => v_cmp rfl (gve hc rfl) (gve hc rfl) rfl) ?_
    refine s_val rfl rfl (v_and rfl rfl rfl rfl) ?_
    refine s_val rfl rfl (v_move rfl rfl) ?_
    refine s_gval rfl rfl rfl (by first | exact w_tt rfl | exact w_gt rfl) (fun hc => v_load rfl rfl Try.underlying33 rfl sz33 (cx.row 1 rfl) hl7.len) ?_
    refine s_gval rfl rfl rfl (by first | exact w_tt rfl | exact w_gt rfl) (fun hc => v_load rfl rfl Try.underlying33 rfl sz33 (cx.row 0 rfl) hl9.len) ?_
    refine s_gfnB cx rfl rfl rfl (by first | exact w_tt rfl | exact w_gt rfl) (fun hc => c22g uc uc _ _ _ hf7.val hf9.val hgc.fine hgc.fine) Try.func22 rfl rfl rfl (fun hc => (cons_eq (gve hc rfl) (cons_eq (gve hc rfl) rfl))) ?_; intro q82 w cx hw82 hp82
    refine s_val rfl rfl (v_and rfl rfl rfl rfl) ?_
    refine s_val rfl rfl (v_move rfl rfl) ?_
    refine s_gval rfl rfl rfl (by first | exact w_tt rfl | exact w_gt rfl) (fun hc => v_move rfl (by first | exact gve hc rfl | exact gve (and_l hc) rfl | exact gve (and_l (and_l hc)) rfl | rfl)) ?_
    refine s_gval rfl rfl rfl (by first | exact w_tt rfl | exact w_gt rfl) (fun hc => v_move rfl (by first | exact gve hc rfl | exact gve (and_l hc) rfl | exact gve (and_l (and_l hc)) rfl | rfl)) ?_
    refine s_gval rfl rfl rfl (by first | exact w_tt rfl | exact w_gt rfl) (fun hc => v_lenSlice rfl (gve hc rfl) Try.underlying50) ?_
    refine s_gval rfl rfl rfl (by first | exact w_tt rfl | exact w_gt rfl) (fun hc => v_cmp rfl (gve hc rfl) (gve hc rfl) rfl) ?_
    refine s_val rfl rfl (v_and rfl rfl rfl rfl) ?_
    refine s_val rfl rfl (v_assign rfl rfl) ?_
    refine wpList_nil ?_
    refine wp_ret ?_
    refine ret_tmp Try.results13 rfl ?_
    refine ⟨cx.ext, _, rfl, ?_⟩
    have e1 := hp73.2 rfl
    have e2 := hp82 (by rw [e1]; simp)
    have e3 := e2.2 rfl
    rw [e1, e3]; simp
end Go.Proofs.Ytmkihcdcgkdilaa
end
section
namespace Go.Proofs.Ytmkihcdcgkdilaa
open Go Go.Dk Go.RowKit Go.ChangeShapes Go.WideShapes Go.ChangeAt Rows
set_option linter.unusedVariables false
theorem agg40 {x : Value} (h : x.cells.toList.length = 40) : x = .agg (x.cells.toList).toArray := by
  cases x <;> first | rfl | (simp [Value.cells] at h)
theorem parts40 {l : List Value} (h : l.length = 40) : l = l.take 13 ++ (l.drop 13).take 13 ++ (l.drop 26).take 13 ++ (l.drop 39).take 1 := by
  have e1 : (l.drop 13).take 13 ++ l.drop 26 = l.drop 13 := by
    have := List.take_append_drop 13 (l.drop 13)
    rw [List.drop_drop] at this
    exact this
  have e2 : (l.drop 26).take 13 ++ l.drop 39 = l.drop 26 := by
    have := List.take_append_drop 13 (l.drop 26)
    rw [List.drop_drop] at this
    exact this
  have e3 : (l.drop 39).take 1 = l.drop 39 := List.take_of_length_le (by simp; omega)
  rw [List.append_assoc, List.append_assoc, e3, e2, e1, List.take_append_drop]
section
variable {H : Type} {enc : TypeId × Value → H} {w : World} {base : Nat} {spare : Nat → Bool} {held : Bool}
/-- three values and a list of choices -/
theorem rd57 {n : Nat} {cs : List Value} {x : DataW H × List MemPlace} (h : DataW.trod enc Try.prog w base spare held n 57 cs = some x) (hN : uptoBulk x.1 ≤ 1048576) :
    ∃ ra rb rc s ua ub uc tk, cs = ra ++ rb ++ rc ++ [s] ∧ cs.length = 40 ∧ Val w ua ra ∧ Val w ub rb ∧ Val w uc rc ∧ Bls w s tk ∧ tk.length ≤ 1048576 ∧ Fine ua ∧ Fine ub ∧ Fine uc := by
  cases n with
  | zero => simp [DataW.trod] at h
  | succ n =>
  obtain ⟨hl, hf⟩ := rd_struct Try.underlying57 (cellsOf_of sz57) h
  obtain ⟨y0, t0, z0⟩ := hf 0 33 0 13 rfl (cellsOf_of sz33)
  obtain ⟨y1, t1, z1⟩ := hf 1 33 13 13 rfl (cellsOf_of sz33)
  obtain ⟨y2, t2, z2⟩ := hf 2 33 26 13 rfl (cellsOf_of sz33)
  obtain ⟨y3, t3, z3⟩ := hf 3 55 39 1 rfl (cellsOf_of sz55)
  obtain ⟨ua, w0, q0⟩ := rd33 _ _ _ t0
  obtain ⟨ub, w1, q1⟩ := rd33 _ _ _ t1
  obtain ⟨uc, w2, q2⟩ := rd33 _ _ _ t2
  cases n with
  | zero => simp [DataW.trod] at t3
  | succ n =>
  obtain ⟨s, len, b, o, e, hs, hb, hel⟩ := rd_slice Try.underlying55 (cellsOf_of sz4) (by omega) t3
  obtain ⟨tk, htk, hp⟩ := list_of (p := fun i (u : Bool) => w.cell? ⟨b, o + i, none⟩ = some (.bool u)) len fun i hi => by
    obtain ⟨r, y, hr, h1, h2, _⟩ := hel i hi
    obtain ⟨m, rfl⟩ := rd_bool Try.underlying4 h2
    have := h1 0 _ rfl
    rw [Nat.mul_one, Nat.add_zero] at this
    exact ⟨m, this⟩
  obtain ⟨a, c, rfl, hfa⟩ := hs.form
  subst htk
  refine ⟨_, _, _, _, ua, ub, uc, tk, ?_, hl, w0, w1, w2, ⟨a, c, b, o, rfl, fun h0 => ⟨hfa h0, hs.inA h0, ?_⟩⟩, by omega, fun d => szd_mono (by omega) d _ (q0 d), fun d => szd_mono (by omega) d _ (q1 d), fun d => szd_mono (by omega) d _ (q2 d)⟩
  · rw [← e]; exact parts40 hl
  · intro j y hj
    rw [List.getElem?_map] at hj
    cases hu : tk[j]? with
    | none => rw [hu] at hj; cases hj
    | some u =>
      rw [hu] at hj
      simp only [Option.map_some, Option.some.injEq] at hj
      rw [hp j u hu, hj]
end
end Go.Proofs.Ytmkihcdcgkdilaa
end
section
namespace Go.Proofs.Ytmkihcdcgkdilaa.mergeResolves
open Go Go.Dk Go.ChangeShapes Go.WideShapes Go.ChangeAt Go.RowKit
set_option linter.unusedVariables false

theorem own : ownKnob Try.prog.godebug = none := by kernel_rfl
theorem laidOut : laidOutB Try.prog = true := by kernel_rfl

set_option maxRecDepth 100000 in
theorem lifted (os : Os) (started : os.Started) (H : Type) (enc : TypeId × Value → H) (F : Stop.Interp) :
    ReturnsInHanded {} Try.checked os 13 .any ((Rows.OpenSpec.upto Rows.mergeResolvesSpec).pre6 enc Try.prog Try.f13 Rows.mergeResolvesUptoRow.domain false) (((Rows.OpenSpec.upto Rows.mergeResolvesSpec).at F).post enc Try.prog Try.f13 false true false false) := by
  refine returnsInHanded_of_cond (C := Try.checked) (s := Rows.OpenSpec.upto Rows.mergeResolvesSpec) (k := Rows.uptoSmall) rfl own started (by kernel_rfl) Try.func13
    (OpenSpec.witness (enc := enc) (C := Try.checked) (s := Rows.OpenSpec.upto Rows.mergeResolvesSpec) (k := Rows.uptoSmall) rfl false ⟨#[], #[.agg #[.int .i64 0, .bool false, .bool false, .string ⟨#[]⟩, .int .i64 0, .int .i64 0, .int .i64 0, .int .i64 0, .int .i64 0, .string ⟨#[]⟩, .slice none 0 0, .slice none 0 0, .slice none 0 0, .int .i64 0, .bool false, .bool false, .string ⟨#[]⟩, .int .i64 0, .int .i64 0, .int .i64 0, .int .i64 0, .int .i64 0, .string ⟨#[]⟩, .slice none 0 0, .slice none 0 0, .slice none 0 0, .int .i64 0, .bool false, .bool false, .string ⟨#[]⟩, .int .i64 0, .int .i64 0, .int .i64 0, .int .i64 0, .int .i64 0, .string ⟨#[]⟩, .slice none 0 0, .slice none 0 0, .slice none 0 0, .slice none 0 0]], []⟩ 8 (by kernel_rfl) (by kernel_rfl) (by kernel_rfl)
      (x := ([.agg [.agg [.lit (.int .i64 0), .lit (.bool false), .agg [.lit (.bool false), .lit (.string []), .lit (.int .i64 0)], .agg [.lit (.int .i64 0), .lit (.int .i64 0), .lit (.int .i64 0), .lit (.int .i64 0)], .lit (.string []), .nil, .nil, .nil], .agg [.lit (.int .i64 0), .lit (.bool false), .agg [.lit (.bool false), .lit (.string []), .lit (.int .i64 0)], .agg [.lit (.int .i64 0), .lit (.int .i64 0), .lit (.int .i64 0), .lit (.int .i64 0)], .lit (.string []), .nil, .nil, .nil], .agg [.lit (.int .i64 0), .lit (.bool false), .agg [.lit (.bool false), .lit (.string []), .lit (.int .i64 0)], .agg [.lit (.int .i64 0), .lit (.int .i64 0), .lit (.int .i64 0), .lit (.int .i64 0)], .lit (.string []), .nil, .nil, .nil], .nil]], [], [])) (by kernel_rfl) rfl (by kernel_rfl)) ?_
  intro W base args ds gs before hval hW _ hk _
  have hW' := hW
  obtain ⟨p, q, hA0, hV, rfl, hfz, hnd⟩ := hW
  have hA : DataW.TrodAll enc Try.prog W 0 (fun _ => true) true Try.f13.params.toList args.toList ds p := hA0
  rw [Try.params13] at hA hval
  obtain ⟨v0, vs0, d0, ds0, p0, q0, hargs, rfl, rfl, h0, r0⟩ := trodAll_cons hA
  obtain ⟨rfl, rfl, rfl⟩ := trodAll_nil r0
  obtain rfl : args = #[v0] := by cases args; simp_all
  obtain ⟨rfl, rfl⟩ := trodVars_none hV
  have k0 := h0
  have lt0 : ∀ x ∈ p0, x.block < W.heap.size := by obtain ⟨m, hm⟩ := k0; exact DataW.trod_lt m _ _ _ hm
  obtain ⟨m0, t0⟩ := h0
  have hbulk : Rows.uptoBulk d0 ≤ 1048576 := by
    have := of_decide_eq_true hk
    simp only [List.append_nil, Rows.uptoBulkAll] at this
    omega
  obtain ⟨xa0, xb0, xc0, sl0, ua0, ub0, uc0, tk0, e0, el0, ha0, hb0, hc0, hs0, htk0, hfa0, hfb0, hfc0⟩ := rd57 t0 (by show Rows.uptoBulk d0 ≤ 1048576; omega)
  obtain rfl : v0 = .agg (xa0 ++ xb0 ++ xc0 ++ [sl0]).toArray := by rw [← e0]; exact agg40 el0
  clear hA0
  refine Calls.mono (c13 ua0 ub0 uc0 tk0 _ _ _ _ W ha0 hb0 hc0 hs0 htk0 hfa0 hfb0 hfc0) fun e W' ⟨r, he, bel, b, hr, hb⟩ => ?_
  subst hr hb he
  exact ⟨_, rfl, _, _, _, [], _, [], hW', trodAll_mk1 (shut_bool Try.underlying4 _), (trodAll_cons_mk (Below.trod laidOut (by kernel_rfl) (of_decide_eq_true (by kernel_rfl)) k0 bel lt0) trodAll_mk0), rfl, bel.frame _, fun h => by cases h⟩

theorem over : Rows.mergeResolvesUptoRow.holds Try.pinned (Rows.OpenSpec.upto Rows.mergeResolvesSpec) :=
  OpenClaim.holds_of_cond 13 Try.f13 rfl rfl rfl rfl rfl rfl rfl ⟨rfl, rfl, rfl, rfl, rfl⟩ rfl rfl rfl rfl rfl (by kernel_rfl) Try.func13 (by kernel_rfl)
    (of_decide_eq_true (by kernel_rfl)) (by unfold Func.isWrapper; first | (rw [if_pos (by decide +kernel)]; kernel_rfl) | (rw [if_neg (by decide +kernel)]; exact ⟨rfl, rfl⟩))
    (fun os started H enc _ F => lifted os started H enc F)

theorem proved : Rows.MergeResolvesUptoSaid := over
end Go.Proofs.Ytmkihcdcgkdilaa.mergeResolves
end
