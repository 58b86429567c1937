/-
  Contracts: comparing pointers, fields, lists of one, keys, of the program.
-/
import Derived.Test.YtmkihcdcgkdilaaMd
import Derived.Test.YtmkihcdcgkdilaaDb
import Derived.Test.YtmkihcdcgkdilaaCf
namespace Go.Proofs.Ytmkihcdcgkdilaa
open Go Go.Dk Go.RowKit
set_option linter.unusedSimpArgs false
set_option linter.unusedVariables false
attribute [local irreducible] Go.wpList Go.Code.wp Go.bodyPost Go.wpStill Go.wpQuiet
theorem zv3 (w : World) : (zeroValue 3).run Try.prog w = .ok (.int .i64 0) w := by
  have h : (Try.prog.info? 3).map (·.zero) = some (some (.int .i64 0)) := by kernel_rfl
  cases hi : Try.prog.info? 3 with
  | none => simp [hi] at h
  | some i => simp [hi] at h; simp [zeroValue, typeInfo, hi, h]
theorem v_lookupQ {o : Oper} {w : World} {ρ : Operand → Value} {x y : Operand} {b m : Nat} {k : ByteArray} {ks : List ByteArray} {c : ByteArray → Int} {q : Int} (he : (if hasK ks k then c k else 0) = q) (ho : o.op = .lookup 146 x y false) (hx : ρ x = .map (some b)) (hy : ρ y = .string k)
    (hb : w.heap[b]? = some (.map (ents ks c 0).toArray m)) : (execOp ρ o).run Try.prog w = .ok (.value (.int .i64 q)) w := by
  subst he
  exact v_lookupS ho hx hy Try.underlying146 Try.underlying9 (zv3 w) hb

set_option maxRecDepth 10000 in
theorem c90 (E : V → V → Bool) (hE : ∀ x y, E x y = true ↔ canon x = canon y) (A : Nat → Prop) (d m : Nat) (a b : OV) (x y : Value) (w0 : World) (hA : ∀ b, A b → b < w0.heap.size) (hd : d ≤ 65536) (ha : PtrO A w0 x a) (hb : PtrO A w0 y b) (hga : GdO d m a) (hgb : GdO d m b) : Fc Try.prog 90 [x, y] w0 (IsB fun r => r = eqO E a b) := by
  obtain ⟨pa, ba, ra, rfl, hpa, hpra⟩ := ha.form
  obtain ⟨pb, bb, rb, rfl, hpb, hprb⟩ := hb.form
  refine ret_enter Try.func90 rfl Try.ntmps90 rfl ?_
  have cx := Ctx.start w0
  refine wp_seq ?_
  refine wp_region_lit ?_
  refine s_val rfl rfl (v_assign rfl rfl) ?_
  refine wpList_nil ?_
  refine wp_seq ?_
  refine wp_seq ?_
  refine wp_region_lit ?_
  refine s_val rfl rfl (v_move rfl rfl) ?_
  refine s_val rfl rfl (v_ptrNil rfl rfl rfl Try.underlying75) ?_
  refine s_val rfl rfl (v_move rfl rfl) ?_
  refine s_gval rfl rfl rfl (by first | exact w_ff rfl | exact w_gf rfl) (fun hc => v_move rfl (by first | exact gve hc rfl | exact gve (and_l hc) rfl | exact gve (and_l (and_l hc)) rfl | rfl)) ?_
  refine s_gval rfl rfl rfl (by first | exact w_ff rfl | exact w_gf rfl) (fun hc => v_ptrNil rfl (gve hc rfl) rfl Try.underlying75) ?_
  refine s_val rfl rfl (v_or rfl rfl rfl rfl) ?_
  refine wpList_nil ?_
  refine c_split rfl (fun hc10 => ?_) (fun hc10 => ?_)
  · skip
    skip
    refine wp_seq ?_
    refine wp_region_lit ?_
    refine s_val rfl rfl (v_move rfl rfl) ?_
    refine s_val rfl rfl (v_ptrNil rfl rfl rfl Try.underlying75) ?_
    refine s_val rfl rfl (v_move rfl rfl) ?_
    refine s_gval rfl rfl rfl (by first | exact w_tt rfl | exact w_gt rfl) (fun hc => v_move rfl (by first | exact gve hc rfl | exact gve (and_l hc) rfl | exact gve (and_l (and_l hc)) rfl | rfl)) ?_
    refine s_gval rfl rfl rfl (by first | exact w_tt rfl | exact w_gt rfl) (fun hc => v_ptrNil rfl (gve hc rfl) rfl Try.underlying75) ?_
    refine s_val rfl rfl (v_and rfl rfl rfl rfl) ?_
    refine s_val rfl rfl (v_assign rfl rfl) ?_
    refine wpList_nil ?_
    refine wp_ret ?_
    refine ret_tmp Try.results90 rfl ?_
    refine ⟨cx.ext, _, rfl, ?_⟩
    cases pa <;> cases pb <;> cases a <;> cases b <;> simp_all [eqO]
  · skip
    skip
    have h1 : a.isSome = true := by cases pa <;> simp_all
    have h2 : b.isSome = true := by cases pb <;> simp_all
    obtain ⟨u, rfl⟩ := Option.isSome_iff_exists.1 h1
    obtain ⟨u', rfl⟩ := Option.isSome_iff_exists.1 h2
    obtain ⟨rfl, _, hr1, hv1⟩ := hpra rfl
    obtain ⟨rfl, _, hr2, hv2⟩ := hprb rfl
    replace hv1 : Val w0 u ra := RepV.mono hA (fun _ _ => rfl) _ _ hv1
    replace hv2 : Val w0 u' rb := RepV.mono hA (fun _ _ => rfl) _ _ hv2
    refine wp_skip ?_
    refine wp_seq ?_
    refine w_quiet cx mixed (by kernel_rfl) ?_
    skip
    refine q_val rfl rfl (fun w cx hwQ => v_move rfl rfl) ?_
    refine q_val rfl rfl (fun w cx hwQ => v_nilCk rfl rfl) ?_
    refine q_val rfl rfl (fun w cx hwQ => v_load rfl rfl Try.underlying33 rfl sz33 (hr1.up cx.ext) hv1.len) ?_
    refine q_val rfl rfl (fun w cx hwQ => v_move rfl rfl) ?_
    refine q_val rfl rfl (fun w cx hwQ => v_nilCk rfl rfl) ?_
    refine q_val rfl rfl (fun w cx hwQ => v_load rfl rfl Try.underlying33 rfl sz33 (hr2.up cx.ext) hv2.len) ?_
    refine q_call (v := .bool (E u u')) rfl rfl (runs_fn Try.func53 rfl rfl rfl rfl) (fun w cx hwQ => (c53 d _ _ _ _ _ hd (hga u rfl).ok (hgb u' rfl).ok (hga u rfl).fine (hgb u' rfl).fine (hv1.up cx.ext) (hv2.up cx.ext)).det fun b hb => Bool.eq_iff_iff.2 (hb.trans (hE _ _).symm)) ?_
    refine q_val rfl rfl (fun w cx hwQ => v_assign rfl rfl) ?_
    refine q_nil ?_; rintro w ⟨cx, hwQ3⟩
    refine wp_ret ?_
    refine ret_tmp Try.results90 rfl ?_
    exact ⟨cx.ext, _, rfl, rfl⟩

set_option maxRecDepth 10000 in
theorem c61o (A : Nat → Prop) (d m : Nat) (o : OV) (x : Value) (key : ByteArray) (w0 : World) (hA : ∀ b, A b → b < w0.heap.size) (hd : d ≤ 65536) (hx : PtrO A w0 x o) (hg : GdO d m o) : Fc Try.prog 61 [x, .string key] w0 (fun y w' => PtrO (Fr w0 w') w' y (fieldO key o)) := by
  obtain ⟨pa, ba, ra, rfl, hpa, hpr⟩ := hx.form
  obtain ⟨abs, als, afs, hre⟩ : ∃ bs ls fs, o.isSome = true → ra = vrow (o.getD nulV).sc bs ls fs := by
    cases o with
    | none => exact ⟨.nilFunc, .nilFunc, .nilFunc, fun h => by cases h⟩
    | some v =>
      obtain ⟨_, _, _, hv⟩ := hpr rfl
      obtain ⟨bs, ls, fs, e, _⟩ := hv.open
      exact ⟨bs, ls, fs, fun _ => e⟩
  replace hpr : o.isSome = true → pa = some ⟨ba, 0, none⟩ ∧ A ba ∧ RowAt w0 ba 0 (vrow (o.getD nulV).sc abs als afs) ∧ RepV A w0 (o.getD nulV) (vrow (o.getD nulV).sc abs als afs) := fun h => by
    rw [← hre h]; exact hpr h
  refine ret_enter Try.func61 rfl Try.ntmps61 rfl ?_
  have cx := Ctx.start w0
  refine wp_seq ?_
  refine wp_region_lit ?_
  refine s_val rfl rfl (v_assign rfl rfl) ?_
  refine wpList_nil ?_
  refine wp_seq ?_
  refine wp_seq ?_
  refine wp_region_lit ?_
  refine s_val rfl rfl (v_move rfl rfl) ?_
  refine s_val rfl rfl (v_ptrNil rfl rfl rfl Try.underlying75) ?_
  refine s_val rfl rfl (v_move rfl rfl) ?_
  refine s_gval rfl rfl rfl (by first | exact w_ff rfl | exact w_gf rfl) (fun hc => v_move rfl (by first | exact gve hc rfl | exact gve (and_l hc) rfl | exact gve (and_l (and_l hc)) rfl | rfl)) ?_
  refine s_gval rfl rfl rfl (by first | exact w_ff rfl | exact w_gf rfl) (fun hc => v_nilCk rfl ((gve hc rfl).trans (congrArg Value.pointer (hpr (by cases pa <;> simp_all)).1))) ?_
  refine s_gval rfl rfl rfl (by first | exact w_ff rfl | exact w_gf rfl) (fun hc => v_fa fa33_0 rfl (gve hc rfl)) ?_
  refine s_gval rfl rfl rfl (by first | exact w_ff rfl | exact w_gf rfl) (fun hc => v_load1 rfl (gve hc rfl) Try.underlying3 rfl (((hpr (by cases pa <;> simp_all)).2.2.1.up cx.ext).cell 0 rfl)) ?_
  refine s_gval rfl rfl rfl (by first | exact w_ff rfl | exact w_gf rfl) (fun hc => v_cmp rfl (by first | exact gve hc rfl | exact gve (and_l hc) rfl | exact gve (and_l (and_l hc)) rfl | rfl) rfl rfl) ?_
  refine s_val rfl rfl (v_or rfl rfl rfl rfl) ?_
  refine wpList_nil ?_
  refine c_split rfl (fun hc15 => ?_) (fun hc15 => ?_)
  · skip
    skip
    refine wp_seq ?_
    refine wp_region_lit ?_
    refine s_val rfl rfl (v_assign rfl rfl) ?_
    refine wpList_nil ?_
    refine wp_ret ?_
    refine ret_tmp Try.results61 rfl ?_
    refine ⟨cx.ext, ?_⟩
    have e : fieldO key o = none := by
      cases o with
      | none => rfl
      | some v =>
        cases pa with
        | none => cases hpa
        | some q =>
          simp only [Option.isNone_some, Bool.false_or, bne_iff_ne, ne_eq, Option.getD_some] at hc15
          simp only [fieldO, if_neg hc15]
    rw [e]; rfl
  · skip
    skip
    simp only [Bool.or_eq_false_iff] at hc15
    have h1 : o.isSome = true := by cases pa <;> simp_all
    obtain ⟨v, rfl⟩ := Option.isSome_iff_exists.1 h1
    have h7 : v.sc.kind = 7 := by have := hc15.2; simpa using this
    obtain ⟨rfl, _, hr, hv⟩ := hpr rfl
    replace hv : Val w0 v _ := RepV.mono hA (fun _ _ => rfl) _ _ hv
    refine wp_skip ?_
    refine wp_seq ?_
    refine wp_region_lit ?_
    refine s_val rfl rfl (v_move rfl rfl) ?_
    refine s_val rfl rfl (v_nilCk rfl rfl) ?_
    refine s_val rfl rfl (v_load rfl rfl Try.underlying33 rfl sz33 (hr.up cx.ext) hv.len) ?_
    refine s_val rfl rfl (v_move rfl rfl) ?_
    have cxc := cx
    refine s_fn cx (c80 d v _ key _ (deep_of_okd _ _ (hg v rfl).ok) hd (hv.up cx.ext) (hg v rfl).fine h7) Try.func80 rfl rfl rfl rfl rfl rfl ?_; intro q21 w cx hw21 hp21
    have hKn := Kp.fr hw21
    obtain ⟨l, bb, rfl, hl13, hl1, hz⟩ := hp21
    refine s_val rfl rfl (v_move rfl rfl) ?_
    refine s_val rfl rfl (v_extract rfl rfl rfl) ?_
    refine s_val rfl rfl (v_extract rfl rfl rfl) ?_
    refine s_alloc cx z33 rfl rfl rfl ?_; intro b5 w cx hb5 hw5
    have hl5 := Nat.le_trans hKn.sz (Nat.le_of_eq hb5)
    replace hKn := hKn.below hw5
    refine s_storeAllG cx 0 rfl rfl rfl rfl rfl rfl (by rw [hl13]; exact sz33) (by rw [hl13]; rfl) hl1 ?_; intro w cx hg5
    replace hKn := hKn.later hg5 hl5
    refine s_val rfl rfl (v_assign rfl rfl) ?_
    refine wpList_nil ?_
    refine wp_seq ?_
    refine wp_seq ?_
    refine wp_region_lit ?_
    refine s_val rfl rfl (v_move rfl rfl) ?_
    refine s_val rfl rfl (v_not rfl rfl) ?_
    refine wpList_nil ?_
    refine c_split rfl (fun hc25 => ?_) (fun hc25 => ?_)
    · skip
      skip
      refine wp_seq ?_
      refine wp_region_lit ?_
      refine s_val rfl rfl (v_assign rfl rfl) ?_
      refine wpList_nil ?_
      refine wp_ret ?_
      refine ret_tmp Try.results61 rfl ?_
      refine ⟨cx.ext, ?_⟩
      have e : fieldO key (some v) = none := by
        simp only [fieldO, if_pos h7]
        cases hh : hasF key v.fields with
        | none => rfl
        | some u =>
          rw [hh] at hz
          rw [hz.1] at hc25
          cases hc25
      rw [e]; rfl
    · skip
      skip
      refine wp_skip ?_
      refine wp_seq ?_
      refine wp_region_lit ?_
      refine s_val rfl rfl (v_assign rfl rfl) ?_
      refine wpList_nil ?_
      refine wp_ret ?_
      refine ret_tmp Try.results61 rfl ?_
      refine ⟨cx.ext, ?_⟩
      have e : fieldO key (some v) = hasF key v.fields := by simp only [fieldO, if_pos h7]
      rw [e]
      cases hh : hasF key v.fields with
      | none =>
        rw [hh] at hz
        rw [hz] at hc25
        cases hc25
      | some u =>
        rw [hh] at hz
        obtain ⟨r', e, hv'⟩ := (hz.2.up cxc.ext.size hKn).rep
        obtain rfl : l = r' := by simpa using e
        exact ⟨b5, l, rfl, cx.set0.fr0, cx.row 0 rfl, hv'⟩

set_option maxRecDepth 10000 in
theorem c92 (A : Nat → Prop) (d m : Nat) (o : OV) (x : Value) (w0 : World) (hA : ∀ b, A b → b < w0.heap.size) (hd : d ≤ 65536) (hx : PtrO A w0 x o) (hg : GdO d m o) : Fc Try.prog 92 [x] w0 (fun s w' => RepL (Fr w0 w') w' s o.toList) := by
  obtain ⟨pa, ba, ra, rfl, hpa, hpr⟩ := hx.form
  refine ret_enter Try.func92 rfl Try.ntmps92 rfl ?_
  have cx := Ctx.start w0
  refine wp_seq ?_
  refine wp_region_lit ?_
  refine s_val rfl rfl (v_assign rfl rfl) ?_
  refine wpList_nil ?_
  refine wp_seq ?_
  refine wp_seq ?_
  refine wp_region_lit ?_
  refine s_val rfl rfl (v_move rfl rfl) ?_
  refine s_val rfl rfl (v_ptrNil rfl rfl rfl Try.underlying75) ?_
  refine wpList_nil ?_
  refine c_split rfl (fun hc4 => ?_) (fun hc4 => ?_)
  · skip
    skip
    refine wp_seq ?_
    refine wp_region_lit ?_
    refine s_val rfl rfl (v_assign rfl rfl) ?_
    refine wpList_nil ?_
    refine wp_ret ?_
    refine ret_tmp Try.results92 rfl ?_
    refine ⟨cx.ext, ?_⟩
    cases o with
    | none => exact repL_nil
    | some v => cases pa <;> simp_all
  · skip
    skip
    have h1 : o.isSome = true := by cases pa <;> simp_all
    obtain ⟨v, rfl⟩ := Option.isSome_iff_exists.1 h1
    obtain ⟨rfl, _, hr, hv⟩ := hpr rfl
    replace hv : Val w0 v _ := RepV.mono hA (fun _ _ => rfl) _ _ hv
    refine wp_skip ?_
    refine wp_seq ?_
    refine wp_region_lit ?_
    refine s_val rfl rfl (v_move rfl rfl) ?_
    refine s_val rfl rfl (v_nilCk rfl rfl) ?_
    refine s_val rfl rfl (v_load rfl rfl Try.underlying33 rfl sz33 (hr.up cx.ext) hv.len) ?_
    have cxc := cx
    refine s_fn cx (c60 d v _ _ (deep_of_okd _ _ (hg v rfl).ok) hd (hv.up cx.ext) (hg v rfl).fine) Try.func60 rfl rfl rfl rfl rfl rfl ?_; intro q8 w cx hw8 hp8
    have hKn := Kp.fr hw8
    obtain ⟨r8, rfl, hm8⟩ := hp8.rep
    refine s_bsl1 cx Try.underlying30 sz33 z33 rfl rfl rfl rfl rfl rfl rfl hm8.len ?_; intro b9 w cx hb9 hw9
    replace hKn := hKn.below hw9
    refine s_val rfl rfl (v_assign rfl rfl) ?_
    refine wpList_nil ?_
    refine wp_ret ?_
    refine ret_tmp Try.results92 rfl ?_
    refine ⟨cx.ext, b9, 0, .inr ⟨_, 1, rfl, Nat.le_refl _, fun _ => ⟨rfl, cx.fr0⟩⟩, ⟨⟨r8, cx.row 0 rfl, ?_⟩, trivial⟩⟩
    exact RepV.mono (fun b hb => ⟨Nat.le_trans cxc.ext.size hb.1, Nat.lt_of_lt_of_le hb.2 hKn.sz⟩) hKn.kp _ _ hm8

theorem addK_cnt {pl : List ByteArray} {k : ByteArray} {cn : ByteArray → Int} {q : Int} (hq : (if hasK (pl.foldl addK []) k then cn k else 0) = q) (h : ∀ k ∈ pl.foldl addK [], 1 ≤ cn k ∧ cn k ≤ (pl.length : Int)) : 0 ≤ q ∧ q ≤ pl.length ∧ (q + 1 == 1) = !hasK (pl.foldl addK []) k ∧
    (∀ x ∈ (pl ++ [k]).foldl addK [], 1 ≤ updC cn k (q + 1) x ∧ updC cn k (q + 1) x ≤ ((pl ++ [k]).length : Int)) ∧ (if hasK (addK (pl.foldl addK []) k) k then updC cn k (q + 1) k else 0) = q + 1 := by
  have hb : 0 ≤ q ∧ q ≤ pl.length := by
    subst hq
    split
    · rename_i hh; have := h k (hasK_iff.1 hh); omega
    · omega
  refine ⟨hb.1, hb.2, ?_, ?_, ?_⟩
  · subst hq
    by_cases hh : hasK (pl.foldl addK []) k = true
    · have := (h k (hasK_iff.1 hh)).1
      rw [if_pos hh, hh]
      simp; omega
    · rw [if_neg hh]
      simp at hh
      simp [hh]
  · intro x hx
    rw [List.length_append, List.length_singleton]
    unfold updC
    split
    · push_cast; omega
    · rename_i hne
      rw [List.foldl_append] at hx
      rcases addK_mem.1 (show x ∈ addK (pl.foldl addK []) k from hx) with hx | hx
      · have := h x hx; push_cast; omega
      · exact absurd hx hne
  · rw [if_pos (hasK_iff.2 (addK_mem.2 (.inr rfl)))]
    simp [updC]
theorem addK_no {ks : List ByteArray} {k : ByteArray} (h : hasK ks k = false) : addK ks k = ks ++ [k] := by unfold addK; rw [h]; rfl
theorem addK_yes {ks : List ByteArray} {k : ByteArray} (h : hasK ks k = true) : addK ks k = ks := by unfold addK; rw [h]; rfl
theorem fold_snocK (pl : List ByteArray) (k : ByteArray) : (pl ++ [k]).foldl addK [] = addK (pl.foldl addK []) k := by rw [List.foldl_append]; rfl
theorem keys_takeS {l : Fs} {i : Nat} (hi : i < l.length) : (keysOf l).take (i + 1) = (keysOf l).take i ++ [l[i].1] := by
  rw [List.take_succ_eq_append_getElem (by simpa [keysOf] using hi)]
  simp [keysOf]

set_option maxRecDepth 10000 in
set_option maxHeartbeats 6400000 in
theorem c91 (A : Nat → Prop) (d m : Nat) (b o t : OV) (x1 x2 x3 : Value) (w0 : World) (hA : ∀ b, A b → b < w0.heap.size) (hb : PtrO A w0 x1 b) (ho : PtrO A w0 x2 o) (ht : PtrO A w0 x3 t) (hgb : GdO d m b) (hgo : GdO d m o) (hgt : GdO d m t) (hm : m ≤ 300000) : Fc Try.prog 91 [x1, x2, x3] w0 (fun y w' => w'.ownsRow w0.heap.size 9 1 y (keysO b o t).length ((keysO b o t).map Value.string)) := by
  have hc1 : x1.cells = #[x1] := by obtain ⟨_, _, _, rfl, _⟩ := hb.form; rfl
  have hc2 : x2.cells = #[x2] := by obtain ⟨_, _, _, rfl, _⟩ := ho.form; rfl
  have hc3 : x3.cells = #[x3] := by obtain ⟨_, _, _, rfl, _⟩ := ht.form; rfl
  refine ret_enter Try.func91 rfl Try.ntmps91 rfl ?_
  have cx := Ctx.start w0
  refine wp_seq ?_
  refine wp_region_lit ?_
  refine s_val rfl rfl (v_assign rfl rfl) ?_
  refine wpList_nil ?_
  refine wp_seq ?_
  refine wp_region_lit ?_
  refine s_val rfl rfl (v_assign rfl rfl) ?_
  refine wpList_nil ?_
  refine wp_seq ?_
  refine wp_region_lit ?_
  refine s_makeMap cx rfl rfl rfl ?_; intro b8 w cx hb8 hw8
  refine s_val rfl rfl (v_assign rfl rfl) ?_
  refine wpList_nil ?_
  refine wp_seq ?_
  refine wp_seq ?_
  refine wp_region_lit ?_
  replace cx := cx.nilRow 9 1
  refine s_val rfl rfl (v_move rfl rfl) ?_
  refine s_val rfl rfl (v_move rfl rfl) ?_
  refine s_val rfl rfl (v_move rfl rfl) ?_
  refine s_bsl3 cx Try.underlying147 sz75 z75 rfl rfl rfl rfl rfl rfl hc2 hc3 hc1 ?_; intro b17 w cx hb17 hw17
  refine s_val rfl rfl (v_lenSlice rfl rfl Try.underlying147) ?_
  refine s_val rfl rfl (v_move rfl rfl) ?_
  refine wpList_nil ?_
  refine wp_block ?_
  refine w_loop (fun k f w1 => ∃ (n : Nat) (cn : ByteArray → Int) (x : Value), k + n = 3 ∧ f 8 = .map (some b8) ∧ f 17 = .slice (some ⟨b17, 0, none⟩) 3 3 ∧ f 18 = .int .i64 3 ∧ f 7 = x ∧ f 19 = .int .i64 (n : Nat) ∧ (∀ k ∈ (keysOf ((([o, t, b] : List OV).take n).flatMap fsO)).foldl addK [], 1 ≤ cn k ∧ cn k ≤ ((keysOf ((([o, t, b] : List OV).take n).flatMap fsO)).length : Int)) ∧ Cxr w0 w1 [(b17, .cells ([x2, x3, x1] : List Value).toArray 75), (b8, .map (ents ((keysOf ((([o, t, b] : List OV).take n).flatMap fsO)).foldl addK []) cn 0).toArray ((keysOf ((([o, t, b] : List OV).take n).flatMap fsO)).foldl addK []).length)] [⟨9, 1, x, ((keysOf ((([o, t, b] : List OV).take n).flatMap fsO)).foldl addK []).length, ((keysOf ((([o, t, b] : List OV).take n).flatMap fsO)).foldl addK []).map Value.string⟩]) (3) ?_ ?_
  · skip
    exact ⟨0, (fun _ => 0), _, rfl, rfl, rfl, rfl, rfl, rfl, (fun k hk => by simp [keysOf] at hk), cx⟩
  intro gk4 f w hJ
  obtain ⟨n, cn, x, hkn, hs8, hs17, hs18, hs7, hs19, hcn, cx⟩ := hJ
  refine wp_seq ?_
  refine wp_region_lit ?_
  refine s_val rfl rfl (v_cmp rfl hs19 hs18 rfl) ?_
  refine wpList_nil ?_
  refine wp_seq ?_
  refine c_split rfl (fun hc20 => ?_) (fun hc20 => ?_)
  · skip
    try simp only [Bool.and_eq_true, Bool.or_eq_true, Bool.and_eq_false_iff, Bool.or_eq_false_iff, Bool.not_eq_true', Bool.not_eq_false', decide_eq_true_eq, decide_eq_false_iff_not, beq_iff_eq, beq_eq_false_iff_ne, bne_iff_ne, bne_eq_false_iff_eq, ne_eq, Classical.not_not] at hc20
    obtain ⟨pv, cur, hcell, hcur, hgc, hfl⟩ : ∃ pv cur, ([x2, x3, x1] : List Value)[n]? = some pv ∧ PtrO A w0 pv cur ∧ GdO d m cur ∧ (([o, t, b] : List OV).take (n + 1)).flatMap fsO = (([o, t, b] : List OV).take n).flatMap fsO ++ fsO cur := by
      have hn : n = 0 ∨ n = 1 ∨ n = 2 := by omega
      rcases hn with rfl | rfl | rfl
      · exact ⟨x2, o, rfl, ho, hgo, by simp⟩
      · exact ⟨x3, t, rfl, ht, hgt, by simp⟩
      · exact ⟨x1, b, rfl, hb, hgb, by simp⟩
    obtain ⟨pa, ba, ra, rfl, hpa, hpr⟩ := hcur.form
    have hpl : ((keysOf ((([o, t, b] : List OV).take n).flatMap fsO))).length ≤ 3 * m := by
      have hn : n = 0 ∨ n = 1 ∨ n = 2 := by omega
      have l1 := hgo.fsLen
      have l2 := hgt.fsLen
      rcases hn with rfl | rfl | rfl <;> simp [keysOf] <;> omega
    refine wp_skip ?_
    refine wp_seq ?_
    refine wp_block ?_
    refine wp_seq ?_
    refine wp_region_lit ?_
    refine s_val rfl rfl (v_ia Try.underlying147 sz75 rfl hs17 hs19 (by omega) (by omega)) ?_
    refine s_val rfl rfl (v_load1 rfl rfl Try.underlying75 rfl (((cx.row 0 rfl)) _ _ (by rw [Int.toNat_natCast, Nat.mul_one]; exact hcell))) ?_
    refine s_val rfl rfl (v_assign rfl rfl) ?_
    refine wpList_nil ?_
    refine wp_seq ?_
    refine wp_seq ?_
    refine wp_region_lit ?_
    refine s_val rfl rfl (v_move rfl rfl) ?_
    refine s_val rfl rfl (v_ptrNil rfl rfl rfl Try.underlying75) ?_
    refine wpList_nil ?_
    refine c_split rfl (fun hc24 => ?_) (fun hc24 => ?_)
    · skip
      skip
      have e : fsO cur = [] := by
        cases cur with
        | none => rfl
        | some v => cases pa <;> simp_all
      rw [e, List.append_nil] at hfl
      refine wp_exit ?_
      refine wp_region_lit ?_
      refine s_val rfl rfl (v_add rfl hs19 rfl (by omega) (by omega)) ?_
      refine s_val rfl rfl (v_move rfl rfl) ?_
      refine wpList_nil ?_
      refine ⟨gk4 - 1, _, by omega, rfl, n + 1, cn, x, by omega, hs8, hs17, hs18, hs7, rfl, ?_, ?_⟩
      · rw [hfl]; exact hcn
      · rw [hfl]; exact cx
    · skip
      skip
      have h1 : cur.isSome = true := by cases pa <;> simp_all
      obtain ⟨v, rfl⟩ := Option.isSome_iff_exists.1 h1
      obtain ⟨rfl, _, hr, hv⟩ := hpr rfl
      replace hv : Val w0 v _ := RepV.mono hA (fun _ _ => rfl) _ _ hv
      obtain ⟨abs, als, afs, rfl, _, _, haf⟩ := id hv.open
      obtain ⟨fa, fc, fb, fo, rfl, hfa, hfget⟩ := haf.open
      have hvl : v.fields.length ≤ m := ((hgc v rfl).nw 1).1
      refine wp_skip ?_
      refine wp_seq ?_
      refine wp_region_lit ?_
      refine s_val rfl rfl (v_move rfl rfl) ?_
      refine s_val rfl rfl (v_nilCk rfl rfl) ?_
      refine s_val rfl rfl (v_fa fa33_7 rfl rfl) ?_
      refine s_val rfl rfl (v_load1 rfl rfl Try.underlying31 rfl ((hr.up cx.ext).cell 12 rfl)) ?_
      refine s_val rfl rfl (v_lenSlice rfl rfl Try.underlying31) ?_
      refine s_val rfl rfl (v_move rfl rfl) ?_
      refine wpList_nil ?_
      refine wp_block ?_
      refine w_loop (fun k f w1 => ∃ (i : Nat) (cn : ByteArray → Int) (x : Value), k + i = v.fields.length ∧ f 8 = .map (some b8) ∧ f 17 = .slice (some ⟨b17, 0, none⟩) 3 3 ∧ f 18 = .int .i64 3 ∧ f 7 = x ∧ f 19 = .int .i64 (n : Nat) ∧ f 28 = .slice fa v.fields.length fc ∧ f 29 = .int .i64 v.fields.length ∧ f 30 = .int .i64 (i : Nat) ∧ (∀ k ∈ (keysOf ((([o, t, b] : List OV).take n).flatMap fsO) ++ (keysOf v.fields).take i).foldl addK [], 1 ≤ cn k ∧ cn k ≤ ((keysOf ((([o, t, b] : List OV).take n).flatMap fsO) ++ (keysOf v.fields).take i).length : Int)) ∧ Cxr w0 w1 [(b17, .cells ([x2, x3, x1] : List Value).toArray 75), (b8, .map (ents ((keysOf ((([o, t, b] : List OV).take n).flatMap fsO) ++ (keysOf v.fields).take i).foldl addK []) cn 0).toArray ((keysOf ((([o, t, b] : List OV).take n).flatMap fsO) ++ (keysOf v.fields).take i).foldl addK []).length)] [⟨9, 1, x, ((keysOf ((([o, t, b] : List OV).take n).flatMap fsO) ++ (keysOf v.fields).take i).foldl addK []).length, ((keysOf ((([o, t, b] : List OV).take n).flatMap fsO) ++ (keysOf v.fields).take i).foldl addK []).map Value.string⟩]) (v.fields.length) ?_ ?_
      · skip
        exact ⟨0, cn, x, by omega, hs8, hs17, hs18, hs7, hs19, rfl, rfl, rfl, by rw [List.take_zero, List.append_nil]; exact hcn, by rw [List.take_zero, List.append_nil]; exact cx⟩
      intro gk8 f w hJ
      obtain ⟨i, cn, x, hki, hs8, hs17, hs18, hs7, hs19, hs28, hs29, hs30, hcn, cx⟩ := hJ
      refine wp_seq ?_
      refine wp_region_lit ?_
      refine s_val rfl rfl (v_cmp rfl hs30 hs29 rfl) ?_
      refine wpList_nil ?_
      refine wp_seq ?_
      refine c_split rfl (fun hc31 => ?_) (fun hc31 => ?_)
      · skip
        try simp only [Bool.and_eq_true, Bool.or_eq_true, Bool.and_eq_false_iff, Bool.or_eq_false_iff, Bool.not_eq_true', Bool.not_eq_false', decide_eq_true_eq, decide_eq_false_iff_not, beq_iff_eq, beq_eq_false_iff_ne, bne_iff_ne, bne_eq_false_iff_eq, ne_eq, Classical.not_not] at hc31
        have hil : i < v.fields.length := by omega
        obtain rfl := hfa (by omega)
        obtain ⟨r, hfr, hrv⟩ := hfget i v.fields[i] (List.getElem?_eq_getElem hil)
        obtain ⟨ebs, els, efs, rfl, _⟩ := hrv.open
        obtain ⟨q, hq⟩ : ∃ q, (if hasK ((keysOf ((([o, t, b] : List OV).take n).flatMap fsO) ++ (keysOf v.fields).take i).foldl addK []) v.fields[i].1 then cn v.fields[i].1 else 0) = q := ⟨_, rfl⟩
        obtain ⟨hq0, hq1, hq2, hq3, hq4⟩ := addK_cnt hq hcn
        have hpi : (keysOf ((([o, t, b] : List OV).take n).flatMap fsO) ++ (keysOf v.fields).take i).length ≤ 4 * m := by
          rw [List.length_append, List.length_take]
          simp only [keysOf, List.length_map] at hpl ⊢
          omega
        have hksl := foldK_len (keysOf ((([o, t, b] : List OV).take n).flatMap fsO) ++ (keysOf v.fields).take i) []
        rw [List.length_nil, Nat.zero_add] at hksl
        have hnd := foldK_nodup (keysOf ((([o, t, b] : List OV).take n).flatMap fsO) ++ (keysOf v.fields).take i) [] List.nodup_nil
        have htk : keysOf ((([o, t, b] : List OV).take n).flatMap fsO) ++ (keysOf v.fields).take (i + 1) = (keysOf ((([o, t, b] : List OV).take n).flatMap fsO) ++ (keysOf v.fields).take i) ++ [v.fields[i].1] := by rw [keys_takeS hil, List.append_assoc]
        refine wp_skip ?_
        refine wp_seq ?_
        refine wp_block ?_
        refine wp_seq ?_
        refine wp_region_lit ?_
        refine s_val rfl rfl (v_ia Try.underlying31 sz77 rfl hs28 hs30 (by omega) (by omega)) ?_
        refine s_val rfl rfl (v_load rfl rfl Try.underlying77 rfl sz77 (hfr.up cx.ext) rfl) ?_
        refine s_alloc cx z77 rfl rfl rfl ?_; intro b12 w cx hb12 hw12
        refine s_storeAllG cx 0 rfl rfl rfl rfl rfl rfl sz77 rfl (by exact hrv.oneCell) ?_; intro w cx hg9
        refine wpList_nil ?_
        refine wp_seq ?_
        refine wp_region_lit ?_
        refine s_val rfl rfl (v_move rfl hs8) ?_
        refine s_val rfl rfl (v_fa fa77_0 rfl rfl) ?_
        refine s_val rfl rfl (v_load1 rfl rfl Try.underlying9 rfl (cx.cell 0 rfl rfl)) ?_
        refine s_val rfl rfl (v_lookupQ hq rfl rfl rfl (cx.at 2 rfl)) ?_
        refine s_val rfl rfl (v_add rfl rfl rfl (by omega) (by omega)) ?_
        refine s_mapSet cx 2 rfl rfl rfl rfl rfl rfl Try.underlying146 Try.underlying9 hnd rfl ?_; intro w cx hg10
        refine wpList_nil ?_
        refine wp_seq ?_
        refine wp_region_lit ?_
        refine s_val rfl rfl (v_move rfl hs8) ?_
        refine s_val rfl rfl (v_fa fa77_0 rfl rfl) ?_
        refine s_val rfl rfl (v_load1 rfl rfl Try.underlying9 rfl (cx.cell 0 rfl rfl)) ?_
        refine s_val rfl rfl (v_lookupQ hq4 rfl rfl rfl (cx.at 2 rfl)) ?_
        refine s_val rfl rfl (v_cmp rfl rfl rfl rfl) ?_
        refine wpList_nil ?_
        refine c_split rfl (fun hc43 => ?_) (fun hc43 => ?_)
        · skip
          skip
          have hno : hasK ((keysOf ((([o, t, b] : List OV).take n).flatMap fsO) ++ (keysOf v.fields).take i).foldl addK []) v.fields[i].1 = false := by
            rw [hq2] at hc43; simpa using hc43
          have hadd : addK ((keysOf ((([o, t, b] : List OV).take n).flatMap fsO) ++ (keysOf v.fields).take i).foldl addK []) v.fields[i].1 = (keysOf ((([o, t, b] : List OV).take n).flatMap fsO) ++ (keysOf v.fields).take i).foldl addK [] ++ [v.fields[i].1] := addK_no hno
          refine wp_region_lit ?_
          refine s_val rfl rfl (v_move rfl hs7) ?_
          refine s_val rfl rfl (v_fa fa77_0 rfl rfl) ?_
          refine s_val rfl rfl (v_load1 rfl rfl Try.underlying9 rfl (cx.cell 0 rfl rfl)) ?_
          refine s_bsl1 cx Try.underlying123 sz9 z9 rfl rfl rfl rfl rfl rfl rfl rfl ?_; intro b47 w cx hb47 hw47
          refine s_appendG (m := 1) cx ei9 Try.underlying123 rfl rfl rfl rfl rfl (cx.row 0 rfl) rfl rfl (by omega) ?_; intro v48 w cx hgr48 hnw48
          replace cx := cx.drop 1
          refine s_val rfl rfl (v_assign rfl rfl) ?_
          refine wpList_nil ?_
          refine wp_region_lit ?_
          refine s_val rfl rfl (v_add rfl hs30 rfl (by omega) (by omega)) ?_
          refine s_val rfl rfl (v_move rfl rfl) ?_
          refine wpList_nil ?_
          refine ⟨gk8 - 1, _, by omega, rfl, i + 1, updC cn v.fields[i].1 (q + 1), v48, by omega, hs8, hs17, hs18, rfl, hs19, hs28, hs29, rfl, ?_, ?_⟩
          · rw [htk]; exact hq3
          · rw [htk, fold_snocK, hadd]
            rw [hadd] at cx
            rw [List.length_append, List.map_append]
            rw [List.length_append] at cx
            exact cx.drop 1
        · skip
          skip
          have hyes : hasK ((keysOf ((([o, t, b] : List OV).take n).flatMap fsO) ++ (keysOf v.fields).take i).foldl addK []) v.fields[i].1 = true := by
            rw [hq2] at hc43; simpa using hc43
          have hadd : addK ((keysOf ((([o, t, b] : List OV).take n).flatMap fsO) ++ (keysOf v.fields).take i).foldl addK []) v.fields[i].1 = (keysOf ((([o, t, b] : List OV).take n).flatMap fsO) ++ (keysOf v.fields).take i).foldl addK [] := addK_yes hyes
          refine wp_skip ?_
          refine wp_region_lit ?_
          refine s_val rfl rfl (v_add rfl hs30 rfl (by omega) (by omega)) ?_
          refine s_val rfl rfl (v_move rfl rfl) ?_
          refine wpList_nil ?_
          refine ⟨gk8 - 1, _, by omega, rfl, i + 1, updC cn v.fields[i].1 (q + 1), x, by omega, hs8, hs17, hs18, hs7, hs19, hs28, hs29, rfl, ?_, ?_⟩
          · rw [htk]; exact hq3
          · rw [htk, fold_snocK, hadd]
            rw [hadd] at cx
            exact cx.drop 1
      · skip
        try simp only [Bool.and_eq_true, Bool.or_eq_true, Bool.and_eq_false_iff, Bool.or_eq_false_iff, Bool.not_eq_true', Bool.not_eq_false', decide_eq_true_eq, decide_eq_false_iff_not, beq_iff_eq, beq_eq_false_iff_ne, bne_iff_ne, bne_eq_false_iff_eq, ne_eq, Classical.not_not] at hc31
        refine wp_exit ?_
        refine wp_region_lit ?_
        refine s_val rfl rfl (v_add rfl hs19 rfl (by omega) (by omega)) ?_
        refine s_val rfl rfl (v_move rfl rfl) ?_
        refine wpList_nil ?_
        have hi : i = v.fields.length := by omega
        subst hi
        have e : (keysOf ((([o, t, b] : List OV).take n).flatMap fsO) ++ (keysOf v.fields).take v.fields.length) = keysOf ((([o, t, b] : List OV).take (n + 1)).flatMap fsO) := by
          have e0 : (keysOf v.fields).take v.fields.length = keysOf v.fields := List.take_of_length_le (by simp [keysOf])
          rw [hfl, keysOf_append, e0]
          rfl
        rw [e] at hcn cx
        exact ⟨gk4 - 1, _, by omega, rfl, n + 1, cn, x, by omega, hs8, hs17, hs18, hs7, rfl, hcn, cx⟩
  · skip
    try simp only [Bool.and_eq_true, Bool.or_eq_true, Bool.and_eq_false_iff, Bool.or_eq_false_iff, Bool.not_eq_true', Bool.not_eq_false', decide_eq_true_eq, decide_eq_false_iff_not, beq_iff_eq, beq_eq_false_iff_ne, bne_iff_ne, bne_eq_false_iff_eq, ne_eq, Classical.not_not] at hc20
    refine wp_exit ?_
    refine wp_seq ?_
    refine wp_region_lit ?_
    refine s_val rfl rfl (v_move rfl hs7) ?_
    refine s_val rfl rfl (v_assign rfl rfl) ?_
    refine wpList_nil ?_
    refine wp_ret ?_
    refine ret_tmp Try.results91 rfl ?_
    have hn : n = 3 := by omega
    subst hn
    have e : ((keysOf ((([o, t, b] : List OV).take 3).flatMap fsO)).foldl addK []) = keysO b o t := by
      unfold keysO
      simp [keysOf_append, List.append_assoc]
    rw [e] at cx
    exact ⟨cx.ext, cx.head⟩
end Go.Proofs.Ytmkihcdcgkdilaa
